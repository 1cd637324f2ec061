/- Out of: Tm. -/
import Derived.Test.YtmeekbjhpidcgaaDoorG31
import Derived.Test.YtmeekbjhpidcgaaDoorG32
namespace Go.Proofs.YtmeekbjhpidcgaaDoor
set_option linter.unusedSimpArgs false
set_option linter.unusedVariables false
set_option linter.unnecessarySimpa false
section
open Go.RowKit
def tC (d:Nat) (at_:Nat) (m:PMan):List PV := [.ptr d 0,pint at_,pint m.ver,pints m.notes,prefs m.refs]
def tG (t d c m:Nat) (at_:Nat) (now:PMan) (D:DM):List (Nat×List PV):=(t,tC d at_ now) :: dG d c m D
def hfT (s:ByteArray):List Int:=ofS glob0 32 [s]
def secD (D:DM) (i:Nat):Option (List Int):=if (D.read i).2=0 then some (D.read i).1.1 else none
def readT (D:DM) (at_ slot:Nat):Option PMan:=readM hfT (upTo (secD D) (at_+slot * 256) 256)
def readV (o:Option PMan):PV:=.tup [pman (o.getD zeroM),pbool o.isSome]
theorem low_readV (o:Option PMan):Low (readV o):=.tup _ (by simp only [List.mem_cons,List.not_mem_nil,or_false];rintro x (rfl|rfl);exact (low_pman _).2 trivial;exact .val _)
theorem weak_readN:Weak (.tup [.agg nilM,pbool false]) (readV none):=.tup (.cons weak_nilM (.cons (.refl _) .nil))
theorem upTo_snoc {c:Nat→Option (List Int)} {b:List Int} : ∀(n a:Nat),(∀j,j < n→c (a+j)≠none)→c (a+n)=some b→upTo c a (n+1)=upTo c a n ++ b
 |0,a,_,h=>by
  rw [Nat.add_zero] at h
  simp [upTo,h]
 |n+1,a,h,h2=>by
  have h0:=h 0 (by omega)
  rw [Nat.add_zero] at h0
  obtain ⟨x,hx⟩:=Option.ne_none_iff_exists'.1 h0
  have ih:=upTo_snoc n (a+1) (fun j hj=>by rw [show a+1+j=a+(j+1) by omega];exact h (j+1) (by omega)) (by rw [show a+1+n=a+(n+1) by omega];exact h2)
  rw [upTo,hx]
  simp only
  rw [ih,upTo,hx]
  simp
theorem upTo_stop {c:Nat→Option (List Int)} : ∀(i n a:Nat),(∀j,j < i→c (a+j)≠none)→c (a+i)=none→i < n→upTo c a n=upTo c a i
 |0,n+1,a,_,h,_=>by
  rw [Nat.add_zero] at h
  simp [upTo,h]
 |i+1,n+1,a,h,h2,hn=>by
  have h0:=h 0 (by omega)
  rw [Nat.add_zero] at h0
  obtain ⟨x,hx⟩:=Option.ne_none_iff_exists'.1 h0
  have ih:=upTo_stop i n (a+1) (fun j hj=>by rw [show a+1+j=a+(j+1) by omega];exact h (j+1) (by omega)) (by rw [show a+1+i=a+(i+1) by omega];exact h2) (by omega)
  rw [upTo,hx,upTo,hx]
  simp only
  rw [ih]
theorem upTo_len {c:Nat→Option (List Int)} (h64:∀i b,c i=some b→b.length=64):∀(n a:Nat),(∀j,j < n→c (a+j)≠none)→(upTo c a n).length=64 * n
 |0,a,_=>rfl
 |n+1,a,h=>by
  have h0:=h 0 (by omega)
  rw [Nat.add_zero] at h0
  obtain ⟨x,hx⟩:=Option.ne_none_iff_exists'.1 h0
  rw [upTo,hx]
  simp only [List.length_append]
  rw [h64 a x hx,upTo_len h64 n (a+1) (fun j hj=>by rw [show a+1+j=a+(j+1) by omega];exact h (j+1) (by omega))]
  omega
theorem upTo_byte {c:Nat→Option (List Int)} (hb:∀i b,c i=some b→∀x∈b,0≤x∧x < 256):∀(n a:Nat),∀x∈upTo c a n,0≤x∧x < 256
 |0,a,x,hx=>by simp [upTo] at hx
 |n+1,a,x,hx=>by
  rw [upTo] at hx
  cases h:c a with
  |none=>rw [h] at hx;simp at hx
  |some b=>
   rw [h] at hx
   rcases List.mem_append.1 hx with h' | h'
   ·exact hb a b h x h'
   ·exact upTo_byte hb n (a+1) x h'
theorem secD_len {D:DM} : ∀i b,secD D i=some b→b.length=64:=by
 intro i b h
 unfold secD at h
 split at h
 ·cases h;exact (D.read i).1.2.1
 ·cases h
theorem secD_byte {D:DM} : ∀i b,secD D i=some b→∀x∈b,0≤x∧x < 256:=by
 intro i b h
 unfold secD at h
 split at h
 ·cases h;exact (D.read i).1.2.2
 ·cases h
theorem upTo_max {c:Nat→Option (List Int)} (h64:∀i b,c i=some b→b.length=64):∀(n a:Nat),(upTo c a n).length≤64 * n
 |0,a=>Nat.le_refl _
 |n+1,a=>by
  rw [upTo]
  cases h:c a with
  |none=>simp
  |some b=>
   have:=upTo_max h64 n (a+1)
   have:=h64 a b h
   simp only [List.length_append]
   omega
theorem pcGetBytes (bs:List Int) (hby:Byte bs):PCalls Tryd.prog 53 [pbytes bs] (· = .tup [pstr (getS bs).1,pint (getS bs).2.1,pint (getS bs).2.2]):=
 pcalls1 (by kernel_rfl) fun Φ μ w v himm hr=>(wireGetBytes v bs w (bytes_of_rep himm hr) hby).mono (by
  rintro e w' ⟨rfl,k,rfl⟩
  exact post_flat himm (RepL.cons (.val _ rfl) (RepL.cons (.val _ rfl) (RepL.cons (.val _ rfl) RepL.nil))).tup rfl rfl ((Still.one _ _).below _))
theorem dh_of_pw {f:FuncId} {fn:Func} {c:Code} {args:List PV} {D D' : DM} {r:PV} (hf:Tryd.prog.funcs[f]? = some fn) (hb:fn.body=some c) (hcb:callB Tryd.prog f=true) (hlow:∀p∈args,LowI (fun i=>i ∈ [1000001,1000002,1000003]) p) (hno:∀p∈args,p.ownB=false) (hn:args.length≤fn.ntmps) (hr:LowI (fun i=>i ∈ [1000001,1000002,1000003]) r)
  (h:PW Tryd.prog fn.ntmps c (RetH typeTab fn.results.toList r (dG 1000001 1000002 1000003 D') (dMs 1000003 D')) (initH args (dG 1000001 1000002 1000003 D) (dMs 1000003 D))):HCalls Tryd.prog f args (dG 1000001 1000002 1000003 D) (dMs 1000003 D) r (dG 1000001 1000002 1000003 D') (dMs 1000003 D'):=by
 have r3:∀D,ResIds (dG 1000001 1000002 1000003 D) (dMs 1000003 D) = [1000001,1000002,1000003]:=fun _=>rfl
 refine hcalls_of_pw typeTab_ok hf hb hcb hno hn (by rw [r3];decide) (by rw [r3];decide) ⟨by rw [r3];exact hlow,fun x hx=>?_,fun x hx=>?_,by rw [r3];exact hr,fun x hx=>?_,fun x hx=>?_,by simp [dG],by simp [dMs]⟩ h
 ·simp only [dG,List.mem_cons,List.not_mem_nil,or_false] at hx
  rcases hx with rfl|rfl
  ·exact dB_lowI (by rw [r3];decide) (by rw [r3];decide) D
  ·exact fun p hp=>(dC_low D p hp).lowI
 ·simp only [dMs,List.mem_cons,List.not_mem_nil,or_false] at hx
  subst hx
  exact fun e he=>⟨(dM_low D e he).1.lowI,(dM_low D e he).2.lowI⟩
 ·simp only [dG,List.mem_cons,List.not_mem_nil,or_false] at hx
  rcases hx with rfl|rfl
  ·exact dB_lowI (by rw [r3];decide) (by rw [r3];decide) D'
  ·exact fun p hp=>(dC_low D' p hp).lowI
 ·simp only [dMs,List.mem_cons,List.not_mem_nil,or_false] at hx
  subst hx
  exact fun e he=>⟨(dM_low D' e he).1.lowI,(dM_low D' e he).2.lowI⟩
theorem tC_lowI {S:Nat→Prop} {d:Nat} (hd:S d) (at_:Nat) (m:PMan):∀c∈tC d at_ m,LowI S c:=by
 intro c hc
 simp only [tC,List.mem_cons,List.not_mem_nil,or_false] at hc
 rcases hc with rfl|rfl|rfl|rfl|rfl
 ·exact .ptr _ _ hd
 ·exact .val _
 ·exact .val _
 ·exact ((low_pints _).2 trivial).lowI
 ·exact ((low_prefs _).2 trivial).lowI
theorem hfT_len (s:ByteArray):(hfT s).length=16:=by rw [hfT,ofS,List.length_take,sumS,outW_len];rfl
theorem outW_byteT (s:H8):∀i,∀c∈outW s i,0≤c∧c < 256
 |0,c,h=>by rw [outW] at h;rw [(List.mem_replicate.1 h).2];omega
 |i+1,c,h=>by
  rw [outW] at h
  rcases List.mem_or_eq_of_mem_set h with h|rfl
  ·exact outW_byteT s i c h
  ·unfold outV;rw [IntKind.wrap_u8];omega
theorem hfT_byte (s:ByteArray):∀x∈hfT s,0≤x∧x < 256:=fun x hx=>outW_byteT _ _ x (List.mem_of_mem_take hx)
theorem ren_tC {S:Nat→Prop} {d at_:Nat} {m:PMan} (h:S d):Ren (fun i=>i) S (.ep (tC d at_ m) 0) (.ep (tC d at_ m) 0):=by
 refine .ep 0 _ _ rfl fun j p q h1 h2=>?_
 rw [h1] at h2
 cases h2
 have hp:=mem_of_get h1
 simp only [tC,List.mem_cons,List.not_mem_nil,or_false] at hp
 rcases hp with rfl|rfl|rfl|rfl|rfl
 ·exact .ptr _ _ h
 ·exact .low _ (.val _)
 ·exact .low _ (.val _)
 ·exact .low _ ((low_pints _).2 trivial)
 ·exact .low _ ((low_prefs _).2 trivial)
set_option maxRecDepth 10000 in
set_option maxHeartbeats 2000000 in
theorem tc_readA (D:DM) (at_ slot:Nat) (now:PMan) (h:D.cells.length≤1000000000) (hop:∀e∈D.op,e.2.2.length≤1000000000) (ha:at_≤1000000000) (hs:slot≤4):HCalls Tryd.prog 39 [.ep (tC 1000001 at_ now) 0,pint slot] (dG 1000001 1000002 1000003 D) (dMs 1000003 D) (readV (readT D at_ slot)) (dG 1000001 1000002 1000003 D) (dMs 1000003 D):=by
 have c1:=dC_low D
 have c2:=dM_low D
 have hln:=low_nilM
 have hli:∀c∈tC 1000001 at_ now,LowI (fun i=>i ∈ [1000001,1000002,1000003]) c:=tC_lowI (by simp) at_ now
 refine dh_of_pw Tryd.func39 rfl rfl (by intro p hp;rcases List.mem_cons.1 hp with rfl|hp;exact .ep _ _ hli;rcases List.mem_cons.1 hp with rfl|hp;exact .val _;cases hp) (by simp [pint,PV.ownB]) (Nat.le_of_ble_eq_true rfl) (low_readV _).lowI ?_
 have hs64:=secD_len (D:=D)
 have hsb:=secD_byte (D:=D)
 refine wk ?_
 refine PW.cutB (fun _:Unit=>(((((((bot.setb 1000001 (dB 1000002 1000003 D)).setb 1000002 (dC D)).setm 1000003 (dM D)).setb 0 nilM).put 4 (.ptr 0 0)).put 6 (pbytes (upTo (secD D) (at_+slot * 256) 256))))) (fun _=>True) ?_ ?_
 ·refine PW.loop (fun i:Nat=>(((((((((bot.setb 1000001 (dB 1000002 1000003 D)).setb 1000002 (dC D)).setm 1000003 (dM D)).setb 0 nilM).put 0 (.ep (tC 1000001 at_ now) 0)).put 1 (pint slot)).put 4 (.ptr 0 0)).put 6 (.sl (64 * i) 1 ((upTo (secD D) (at_+slot * 256) i).map pbyte) (some 5)))).put 15 (pint i)) (fun i=>i≤256∧∀j,j < i→secD D (at_+slot * 256+j)≠none) (fun i=>256 - i) 0 ⟨by omega,fun j hj=>by omega⟩ ?_ ?_
  ·(refine Sub.same ?_;(repeat (first|exact SubR.bot|((with_reducible refine SubR.isp ?_);refine SubR.put ?_ (by (first|exact .inl (ren_tC rfl)|exact .inl (.ptr _ _ rfl)|exact .inl (.msl _ _ _ _ rfl)|exact .inl (.mref _ rfl)|exact .inl (.low _ (by (first|exact low_mapI|exact low_mapS|exact low_mapB|assumption|exact hlow _|exact hlow _ _|exact Low.agg _ (low_map (fun _=>Low.val _) _)|(simp [low_pu32,low_pu64,low_val,low_nilsl,low_sl,low_ep,low_agg,low_tup,low_fn,low_pint,low_pstr,low_pbool,low_pints,low_pstrs,low_pbyte,low_pbytes,hlow];done)|(simp [low_pu32,low_pu64,low_val,low_nilsl,low_sl,low_ep,low_agg,low_tup,low_fn,low_pint,low_pstr,low_pbool,low_pints,low_pstrs,low_pbyte,low_pbytes];done)|simp [low_pu32,low_pu64,low_val,low_nilsl,low_sl,low_ep,low_agg,low_tup,low_fn,low_pint,low_pstr,low_pbool,low_pints,low_pstrs,low_pbyte,low_pbytes,low_pattrs,low_pdefs,low_pschema,low_pentry])))|exact .inr (.inl (.low _ (by (first|exact low_mapI|exact low_mapS|exact low_mapB|assumption|exact hlow _|exact hlow _ _|exact Low.agg _ (low_map (fun _=>Low.val _) _)|(simp [low_pu32,low_pu64,low_val,low_nilsl,low_sl,low_ep,low_agg,low_tup,low_fn,low_pint,low_pstr,low_pbool,low_pints,low_pstrs,low_pbyte,low_pbytes,hlow];done)|(simp [low_pu32,low_pu64,low_val,low_nilsl,low_sl,low_ep,low_agg,low_tup,low_fn,low_pint,low_pstr,low_pbool,low_pints,low_pstrs,low_pbyte,low_pbytes];done)|simp [low_pu32,low_pu64,low_val,low_nilsl,low_sl,low_ep,low_agg,low_tup,low_fn,low_pint,low_pstr,low_pbool,low_pints,low_pstrs,low_pbyte,low_pbytes,low_pattrs,low_pdefs,low_pschema,low_pentry]))))|exact .inr (.inr ⟨_,_,rfl,rfl⟩))))|((with_reducible refine SubR.isb ?_);refine SubR.setb ?_ rfl rfl (by (first|exact RenQL.low (by first|assumption|exact hlow _|exact hlow _ _|exact low_map (fun _=>Low.val _) _)|exact RenQL.lowE (by assumption) (low_map (fun _=>Low.val _) _)|((repeat (refine RenQL.cons (by (first|exact .inl (ren_tC rfl)|exact .inl (.ptr _ _ rfl)|exact .inl (.msl _ _ _ _ rfl)|exact .inl (.mref _ rfl)|exact .inl (.low _ (by (first|exact low_mapI|exact low_mapS|exact low_mapB|assumption|exact hlow _|exact hlow _ _|exact Low.agg _ (low_map (fun _=>Low.val _) _)|(simp [low_pu32,low_pu64,low_val,low_nilsl,low_sl,low_ep,low_agg,low_tup,low_fn,low_pint,low_pstr,low_pbool,low_pints,low_pstrs,low_pbyte,low_pbytes,hlow];done)|(simp [low_pu32,low_pu64,low_val,low_nilsl,low_sl,low_ep,low_agg,low_tup,low_fn,low_pint,low_pstr,low_pbool,low_pints,low_pstrs,low_pbyte,low_pbytes];done)|simp [low_pu32,low_pu64,low_val,low_nilsl,low_sl,low_ep,low_agg,low_tup,low_fn,low_pint,low_pstr,low_pbool,low_pints,low_pstrs,low_pbyte,low_pbytes,low_pattrs,low_pdefs,low_pschema,low_pentry])))|exact .inr (.inl (.low _ (by (first|exact low_mapI|exact low_mapS|exact low_mapB|assumption|exact hlow _|exact hlow _ _|exact Low.agg _ (low_map (fun _=>Low.val _) _)|(simp [low_pu32,low_pu64,low_val,low_nilsl,low_sl,low_ep,low_agg,low_tup,low_fn,low_pint,low_pstr,low_pbool,low_pints,low_pstrs,low_pbyte,low_pbytes,hlow];done)|(simp [low_pu32,low_pu64,low_val,low_nilsl,low_sl,low_ep,low_agg,low_tup,low_fn,low_pint,low_pstr,low_pbool,low_pints,low_pstrs,low_pbyte,low_pbytes];done)|simp [low_pu32,low_pu64,low_val,low_nilsl,low_sl,low_ep,low_agg,low_tup,low_fn,low_pint,low_pstr,low_pbool,low_pints,low_pstrs,low_pbyte,low_pbytes,low_pattrs,low_pdefs,low_pschema,low_pentry]))))|exact .inr (.inr ⟨_,_,rfl,rfl⟩))) ?_));exact RenQL.nil))))|((with_reducible refine SubR.ism ?_);refine SubR.setm ?_ rfl rfl (by (first|exact ⟨rfl,rfl,rfl,rfl,rfl⟩|exact RenM.low (by first|assumption|exact hlowm _|exact hlowm _ _)))))))
  ·rintro i ⟨hi,hu⟩
   have hu2:=fun _:Unit=>hu
   have hul:=upTo_len hs64 i (at_+slot * 256) hu
   by_cases hlt:i < 256
   ·have hrd:=dc_Read D ((at_:Int)+(slot:Int) * 256+i) h hop 1000001 1000002 1000003 (by decide)
    have hsec:secD D (at_+slot * 256+i)=if (D.read ((at_:Int)+(slot:Int) * 256+i)).2=0 then some (D.read ((at_:Int)+(slot:Int) * 256+i)).1.1 else none:=by
     unfold secD;rw [show ((at_+slot * 256+i:Nat):Int)=(at_:Int)+(slot:Int) * 256+i by omega]
    clear hu
    generalize D.read ((at_:Int)+(slot:Int) * 256+i)=R at *
    obtain ⟨S,z⟩:=R
    have hSl:(((secL S).drop (0+0 * 1)).take ((64 - 0) * 1)).map PV.bare=secL S:=by
     rw [List.drop_zero,List.take_of_length_le (by rw [secL_len];omega),secL_bare]
    by_cases hz:z=0
    ·subst hz
     rw [if_pos rfl] at hsec
     have hsn:=upTo_snoc i (at_+slot * 256) (hu2 ()) hsec
     have hlS:=secL_len S
     have e6:PV.sl (64 * (i+1)) 1 ((upTo (secD D) (at_+slot * 256) (i+1)).map pbyte) (some 5) = .sl (64 * i+(64 - 0)) 1 ((upTo (secD D) (at_+slot * 256) i).map pbyte ++ secL S) (some 5):=by
      rw [hsn,List.map_append];rfl
     have hlow:∀o:Option TypeId,Low (.sl (64 * i+(64 - 0)) 1 ((upTo (secD D) (at_+slot * 256) i).map pbyte ++ secL S) o):=fun o=>.sl _ _ _ _ (fun c hc=>by
      rcases List.mem_append.1 hc with hc|hc
      ·obtain ⟨x,-,rfl⟩:=List.mem_map.1 hc;exact .val _
      ·exact secL_low S c hc)
     refine wk ?_
     refine PWops.appM typeTab_ok rfl (fun _ _=>rfl) rfl rfl rfl rfl rfl rfl rfl rfl (by show 0+0 * 1+(64 - 0) * 1≤(secL S).length;omega) hSl rfl (by omega) (by omega) ?_
     refine wk ?_
     refine loopP (i+1) ⟨by omega,fun j hj=>?_⟩ (by omega) ?_
     ·by_cases hji:j=i
      ·subst hji;rw [hsec];simp
      ·exact hu2 () j (by omega)
     try dsimp only
     rw [e6]
     (refine Sub.same ?_;(repeat (first|exact SubR.bot|((with_reducible refine SubR.isp ?_);refine SubR.put ?_ (by (first|exact .inl (ren_tC rfl)|exact .inl (.ptr _ _ rfl)|exact .inl (.msl _ _ _ _ rfl)|exact .inl (.mref _ rfl)|exact .inl (.low _ (by (first|exact low_mapI|exact low_mapS|exact low_mapB|assumption|exact hlow _|exact hlow _ _|exact Low.agg _ (low_map (fun _=>Low.val _) _)|(simp [low_pu32,low_pu64,low_val,low_nilsl,low_sl,low_ep,low_agg,low_tup,low_fn,low_pint,low_pstr,low_pbool,low_pints,low_pstrs,low_pbyte,low_pbytes,hlow];done)|(simp [low_pu32,low_pu64,low_val,low_nilsl,low_sl,low_ep,low_agg,low_tup,low_fn,low_pint,low_pstr,low_pbool,low_pints,low_pstrs,low_pbyte,low_pbytes];done)|simp [low_pu32,low_pu64,low_val,low_nilsl,low_sl,low_ep,low_agg,low_tup,low_fn,low_pint,low_pstr,low_pbool,low_pints,low_pstrs,low_pbyte,low_pbytes,low_pattrs,low_pdefs,low_pschema,low_pentry])))|exact .inr (.inl (.low _ (by (first|exact low_mapI|exact low_mapS|exact low_mapB|assumption|exact hlow _|exact hlow _ _|exact Low.agg _ (low_map (fun _=>Low.val _) _)|(simp [low_pu32,low_pu64,low_val,low_nilsl,low_sl,low_ep,low_agg,low_tup,low_fn,low_pint,low_pstr,low_pbool,low_pints,low_pstrs,low_pbyte,low_pbytes,hlow];done)|(simp [low_pu32,low_pu64,low_val,low_nilsl,low_sl,low_ep,low_agg,low_tup,low_fn,low_pint,low_pstr,low_pbool,low_pints,low_pstrs,low_pbyte,low_pbytes];done)|simp [low_pu32,low_pu64,low_val,low_nilsl,low_sl,low_ep,low_agg,low_tup,low_fn,low_pint,low_pstr,low_pbool,low_pints,low_pstrs,low_pbyte,low_pbytes,low_pattrs,low_pdefs,low_pschema,low_pentry]))))|exact .inr (.inr ⟨_,_,rfl,rfl⟩))))|((with_reducible refine SubR.isb ?_);refine SubR.setb ?_ rfl rfl (by (first|exact RenQL.low (by first|assumption|exact hlow _|exact hlow _ _|exact low_map (fun _=>Low.val _) _)|exact RenQL.lowE (by assumption) (low_map (fun _=>Low.val _) _)|((repeat (refine RenQL.cons (by (first|exact .inl (ren_tC rfl)|exact .inl (.ptr _ _ rfl)|exact .inl (.msl _ _ _ _ rfl)|exact .inl (.mref _ rfl)|exact .inl (.low _ (by (first|exact low_mapI|exact low_mapS|exact low_mapB|assumption|exact hlow _|exact hlow _ _|exact Low.agg _ (low_map (fun _=>Low.val _) _)|(simp [low_pu32,low_pu64,low_val,low_nilsl,low_sl,low_ep,low_agg,low_tup,low_fn,low_pint,low_pstr,low_pbool,low_pints,low_pstrs,low_pbyte,low_pbytes,hlow];done)|(simp [low_pu32,low_pu64,low_val,low_nilsl,low_sl,low_ep,low_agg,low_tup,low_fn,low_pint,low_pstr,low_pbool,low_pints,low_pstrs,low_pbyte,low_pbytes];done)|simp [low_pu32,low_pu64,low_val,low_nilsl,low_sl,low_ep,low_agg,low_tup,low_fn,low_pint,low_pstr,low_pbool,low_pints,low_pstrs,low_pbyte,low_pbytes,low_pattrs,low_pdefs,low_pschema,low_pentry])))|exact .inr (.inl (.low _ (by (first|exact low_mapI|exact low_mapS|exact low_mapB|assumption|exact hlow _|exact hlow _ _|exact Low.agg _ (low_map (fun _=>Low.val _) _)|(simp [low_pu32,low_pu64,low_val,low_nilsl,low_sl,low_ep,low_agg,low_tup,low_fn,low_pint,low_pstr,low_pbool,low_pints,low_pstrs,low_pbyte,low_pbytes,hlow];done)|(simp [low_pu32,low_pu64,low_val,low_nilsl,low_sl,low_ep,low_agg,low_tup,low_fn,low_pint,low_pstr,low_pbool,low_pints,low_pstrs,low_pbyte,low_pbytes];done)|simp [low_pu32,low_pu64,low_val,low_nilsl,low_sl,low_ep,low_agg,low_tup,low_fn,low_pint,low_pstr,low_pbool,low_pints,low_pstrs,low_pbyte,low_pbytes,low_pattrs,low_pdefs,low_pschema,low_pentry]))))|exact .inr (.inr ⟨_,_,rfl,rfl⟩))) ?_));exact RenQL.nil))))|((with_reducible refine SubR.ism ?_);refine SubR.setm ?_ rfl rfl (by (first|exact ⟨rfl,rfl,rfl,rfl,rfl⟩|exact RenM.low (by first|assumption|exact hlowm _|exact hlowm _ _)))))))
    ·rw [if_neg hz] at hsec
     have hst:=upTo_stop i 256 (at_+slot * 256) (hu2 ()) hsec hlt
     have e6:pbytes (upTo (secD D) (at_+slot * 256) 256) = .sl (64 * i) 1 ((upTo (secD D) (at_+slot * 256) i).map pbyte) none:=by
      rw [hst];unfold pbytes;rw [hul]
     refine wk ?_
     refine midP () trivial ?_
     rw [e6]
     (refine Sub.same ?_;(repeat (first|exact SubR.bot|((with_reducible refine SubR.isp ?_);refine SubR.put ?_ (by (first|exact .inl (ren_tC rfl)|exact .inl (.ptr _ _ rfl)|exact .inl (.msl _ _ _ _ rfl)|exact .inl (.mref _ rfl)|exact .inl (.low _ (by (first|exact low_mapI|exact low_mapS|exact low_mapB|assumption|exact hlow _|exact hlow _ _|exact Low.agg _ (low_map (fun _=>Low.val _) _)|(simp [low_pu32,low_pu64,low_val,low_nilsl,low_sl,low_ep,low_agg,low_tup,low_fn,low_pint,low_pstr,low_pbool,low_pints,low_pstrs,low_pbyte,low_pbytes,hlow];done)|(simp [low_pu32,low_pu64,low_val,low_nilsl,low_sl,low_ep,low_agg,low_tup,low_fn,low_pint,low_pstr,low_pbool,low_pints,low_pstrs,low_pbyte,low_pbytes];done)|simp [low_pu32,low_pu64,low_val,low_nilsl,low_sl,low_ep,low_agg,low_tup,low_fn,low_pint,low_pstr,low_pbool,low_pints,low_pstrs,low_pbyte,low_pbytes,low_pattrs,low_pdefs,low_pschema,low_pentry])))|exact .inr (.inl (.low _ (by (first|exact low_mapI|exact low_mapS|exact low_mapB|assumption|exact hlow _|exact hlow _ _|exact Low.agg _ (low_map (fun _=>Low.val _) _)|(simp [low_pu32,low_pu64,low_val,low_nilsl,low_sl,low_ep,low_agg,low_tup,low_fn,low_pint,low_pstr,low_pbool,low_pints,low_pstrs,low_pbyte,low_pbytes,hlow];done)|(simp [low_pu32,low_pu64,low_val,low_nilsl,low_sl,low_ep,low_agg,low_tup,low_fn,low_pint,low_pstr,low_pbool,low_pints,low_pstrs,low_pbyte,low_pbytes];done)|simp [low_pu32,low_pu64,low_val,low_nilsl,low_sl,low_ep,low_agg,low_tup,low_fn,low_pint,low_pstr,low_pbool,low_pints,low_pstrs,low_pbyte,low_pbytes,low_pattrs,low_pdefs,low_pschema,low_pentry]))))|exact .inr (.inr ⟨_,_,rfl,rfl⟩))))|((with_reducible refine SubR.isb ?_);refine SubR.setb ?_ rfl rfl (by (first|exact RenQL.low (by first|assumption|exact hlow _|exact hlow _ _|exact low_map (fun _=>Low.val _) _)|exact RenQL.lowE (by assumption) (low_map (fun _=>Low.val _) _)|((repeat (refine RenQL.cons (by (first|exact .inl (ren_tC rfl)|exact .inl (.ptr _ _ rfl)|exact .inl (.msl _ _ _ _ rfl)|exact .inl (.mref _ rfl)|exact .inl (.low _ (by (first|exact low_mapI|exact low_mapS|exact low_mapB|assumption|exact hlow _|exact hlow _ _|exact Low.agg _ (low_map (fun _=>Low.val _) _)|(simp [low_pu32,low_pu64,low_val,low_nilsl,low_sl,low_ep,low_agg,low_tup,low_fn,low_pint,low_pstr,low_pbool,low_pints,low_pstrs,low_pbyte,low_pbytes,hlow];done)|(simp [low_pu32,low_pu64,low_val,low_nilsl,low_sl,low_ep,low_agg,low_tup,low_fn,low_pint,low_pstr,low_pbool,low_pints,low_pstrs,low_pbyte,low_pbytes];done)|simp [low_pu32,low_pu64,low_val,low_nilsl,low_sl,low_ep,low_agg,low_tup,low_fn,low_pint,low_pstr,low_pbool,low_pints,low_pstrs,low_pbyte,low_pbytes,low_pattrs,low_pdefs,low_pschema,low_pentry])))|exact .inr (.inl (.low _ (by (first|exact low_mapI|exact low_mapS|exact low_mapB|assumption|exact hlow _|exact hlow _ _|exact Low.agg _ (low_map (fun _=>Low.val _) _)|(simp [low_pu32,low_pu64,low_val,low_nilsl,low_sl,low_ep,low_agg,low_tup,low_fn,low_pint,low_pstr,low_pbool,low_pints,low_pstrs,low_pbyte,low_pbytes,hlow];done)|(simp [low_pu32,low_pu64,low_val,low_nilsl,low_sl,low_ep,low_agg,low_tup,low_fn,low_pint,low_pstr,low_pbool,low_pints,low_pstrs,low_pbyte,low_pbytes];done)|simp [low_pu32,low_pu64,low_val,low_nilsl,low_sl,low_ep,low_agg,low_tup,low_fn,low_pint,low_pstr,low_pbool,low_pints,low_pstrs,low_pbyte,low_pbytes,low_pattrs,low_pdefs,low_pschema,low_pentry]))))|exact .inr (.inr ⟨_,_,rfl,rfl⟩))) ?_));exact RenQL.nil))))|((with_reducible refine SubR.ism ?_);refine SubR.setm ?_ rfl rfl (by (first|exact ⟨rfl,rfl,rfl,rfl,rfl⟩|exact RenM.low (by first|assumption|exact hlowm _|exact hlowm _ _)))))))
   ·obtain rfl:i=256:=by omega
    have e6:pbytes (upTo (secD D) (at_+slot * 256) 256) = .sl (64 * 256) 1 ((upTo (secD D) (at_+slot * 256) 256).map pbyte) none:=by
     unfold pbytes;rw [hul]
    refine wk ?_
    refine midP () trivial ?_
    rw [e6]
    (refine Sub.same ?_;(repeat (first|exact SubR.bot|((with_reducible refine SubR.isp ?_);refine SubR.put ?_ (by (first|exact .inl (ren_tC rfl)|exact .inl (.ptr _ _ rfl)|exact .inl (.msl _ _ _ _ rfl)|exact .inl (.mref _ rfl)|exact .inl (.low _ (by (first|exact low_mapI|exact low_mapS|exact low_mapB|assumption|exact hlow _|exact hlow _ _|exact Low.agg _ (low_map (fun _=>Low.val _) _)|(simp [low_pu32,low_pu64,low_val,low_nilsl,low_sl,low_ep,low_agg,low_tup,low_fn,low_pint,low_pstr,low_pbool,low_pints,low_pstrs,low_pbyte,low_pbytes,hlow];done)|(simp [low_pu32,low_pu64,low_val,low_nilsl,low_sl,low_ep,low_agg,low_tup,low_fn,low_pint,low_pstr,low_pbool,low_pints,low_pstrs,low_pbyte,low_pbytes];done)|simp [low_pu32,low_pu64,low_val,low_nilsl,low_sl,low_ep,low_agg,low_tup,low_fn,low_pint,low_pstr,low_pbool,low_pints,low_pstrs,low_pbyte,low_pbytes,low_pattrs,low_pdefs,low_pschema,low_pentry])))|exact .inr (.inl (.low _ (by (first|exact low_mapI|exact low_mapS|exact low_mapB|assumption|exact hlow _|exact hlow _ _|exact Low.agg _ (low_map (fun _=>Low.val _) _)|(simp [low_pu32,low_pu64,low_val,low_nilsl,low_sl,low_ep,low_agg,low_tup,low_fn,low_pint,low_pstr,low_pbool,low_pints,low_pstrs,low_pbyte,low_pbytes,hlow];done)|(simp [low_pu32,low_pu64,low_val,low_nilsl,low_sl,low_ep,low_agg,low_tup,low_fn,low_pint,low_pstr,low_pbool,low_pints,low_pstrs,low_pbyte,low_pbytes];done)|simp [low_pu32,low_pu64,low_val,low_nilsl,low_sl,low_ep,low_agg,low_tup,low_fn,low_pint,low_pstr,low_pbool,low_pints,low_pstrs,low_pbyte,low_pbytes,low_pattrs,low_pdefs,low_pschema,low_pentry]))))|exact .inr (.inr ⟨_,_,rfl,rfl⟩))))|((with_reducible refine SubR.isb ?_);refine SubR.setb ?_ rfl rfl (by (first|exact RenQL.low (by first|assumption|exact hlow _|exact hlow _ _|exact low_map (fun _=>Low.val _) _)|exact RenQL.lowE (by assumption) (low_map (fun _=>Low.val _) _)|((repeat (refine RenQL.cons (by (first|exact .inl (ren_tC rfl)|exact .inl (.ptr _ _ rfl)|exact .inl (.msl _ _ _ _ rfl)|exact .inl (.mref _ rfl)|exact .inl (.low _ (by (first|exact low_mapI|exact low_mapS|exact low_mapB|assumption|exact hlow _|exact hlow _ _|exact Low.agg _ (low_map (fun _=>Low.val _) _)|(simp [low_pu32,low_pu64,low_val,low_nilsl,low_sl,low_ep,low_agg,low_tup,low_fn,low_pint,low_pstr,low_pbool,low_pints,low_pstrs,low_pbyte,low_pbytes,hlow];done)|(simp [low_pu32,low_pu64,low_val,low_nilsl,low_sl,low_ep,low_agg,low_tup,low_fn,low_pint,low_pstr,low_pbool,low_pints,low_pstrs,low_pbyte,low_pbytes];done)|simp [low_pu32,low_pu64,low_val,low_nilsl,low_sl,low_ep,low_agg,low_tup,low_fn,low_pint,low_pstr,low_pbool,low_pints,low_pstrs,low_pbyte,low_pbytes,low_pattrs,low_pdefs,low_pschema,low_pentry])))|exact .inr (.inl (.low _ (by (first|exact low_mapI|exact low_mapS|exact low_mapB|assumption|exact hlow _|exact hlow _ _|exact Low.agg _ (low_map (fun _=>Low.val _) _)|(simp [low_pu32,low_pu64,low_val,low_nilsl,low_sl,low_ep,low_agg,low_tup,low_fn,low_pint,low_pstr,low_pbool,low_pints,low_pstrs,low_pbyte,low_pbytes,hlow];done)|(simp [low_pu32,low_pu64,low_val,low_nilsl,low_sl,low_ep,low_agg,low_tup,low_fn,low_pint,low_pstr,low_pbool,low_pints,low_pstrs,low_pbyte,low_pbytes];done)|simp [low_pu32,low_pu64,low_val,low_nilsl,low_sl,low_ep,low_agg,low_tup,low_fn,low_pint,low_pstr,low_pbool,low_pints,low_pstrs,low_pbyte,low_pbytes,low_pattrs,low_pdefs,low_pschema,low_pentry]))))|exact .inr (.inr ⟨_,_,rfl,rfl⟩))) ?_));exact RenQL.nil))))|((with_reducible refine SubR.ism ?_);refine SubR.setm ?_ rfl rfl (by (first|exact ⟨rfl,rfl,rfl,rfl,rfl⟩|exact RenM.low (by first|assumption|exact hlowm _|exact hlowm _ _)))))))
 ·rintro - -
  have hmax:=upTo_max hs64 256 (at_+slot * 256)
  have hbyt:Byte (upTo (secD D) (at_+slot * 256) 256):=Byte.of (upTo_byte hsb 256 (at_+slot * 256))
  unfold readT readM
  generalize upTo (secD D) (at_+slot * 256) 256=b at *
  by_cases g1:b.length < 16
  ·rw [if_pos g1]
   refine wk ?_
   exact RetH.mk (r':=.tup [.agg nilM,pbool false]) rfl weak_readN ⟨⟨_,rfl,WeakL.refl _⟩,⟨_,rfl,WeakL.refl _⟩,trivial⟩ ⟨⟨rfl,rfl⟩,trivial⟩
  rw [if_neg g1]
  have hgb:=pcGetBytes (b.drop 16) (hbyt.drop 16)
  have hgk:=getS_back (b.drop 16)
  obtain ⟨s,u,er,h1⟩:∃s u er,getS (b.drop 16)=(s,u,er):=⟨_,_,_,rfl⟩
  rw [h1] at hgb
  rw [h1]
  simp only at hgb ⊢
  refine wk ?_
  by_cases g2:er=0
  case neg=>
   rw [if_pos g2]
   refine wk ?_
   exact RetH.mk (r':=.tup [.agg nilM,pbool false]) rfl weak_readN ⟨⟨_,rfl,WeakL.refl _⟩,⟨_,rfl,WeakL.refl _⟩,trivial⟩ ⟨⟨rfl,rfl⟩,trivial⟩
  subst g2
  rw [if_neg (by simp)]
  obtain ⟨k1,k2,k3⟩:=hgk s u (hbyt.drop 16).all h1
  have hsz:s.size≤100000:=by
   have:=congrArg List.length k1
   rw [strB,List.length_append,bytesL_len,List.length_take,List.length_drop] at this
   omega
  clear hgk h1 k1 k2 k3
  have hof:=pw_of 32 [s] (by simp) (by intro x hx;simp only [List.mem_cons,List.not_mem_nil,or_false] at hx;subst hx;omega)
  have hof2:ofS glob0 32 [s]=hfT s:=rfl
  rw [hof2] at hof
  have h16:=hfT_len s
  have hb16:=hfT_byte s
  clear hof2
  generalize hfT s=H at *
  refine wg ?_
  refine PW.region typeTab_ok (by kernel_rfl) ?_
  refine wg ?_
  refine PW.freezeP (id:=14003) (s:=13) (off:=0) (σ':=(((((((bot.setb 1000001 (dB 1000002 1000003 D)).setb 1000002 (dC D)).setm 1000003 (dM D)).setb 0 nilM).put 4 (.ptr 0 0)).put 6 (pbytes b)).put 10 (pstr s))) rfl rfl (low_map (fun _=>Low.val _) _) (by exact sbr0) rfl ?_
  refine PW.draw typeTab_ok (by kernel_rfl) (by kernel_rfl) (by kernel_rfl) ?_
  refine PWops.slcE rfl rfl rfl rfl rfl rfl rfl (by rw [List.length_map,h16]) ⟨by decide,by decide⟩ ?_
  have hbe:=pw_bytesEqual H (b.take 16) (Byte.of hb16) (Byte.of fun c hc=>hbyt.all c (List.mem_of_mem_take hc))
  unfold pbytes at hbe
  rw [h16] at hbe
  by_cases g3:H=b.take 16
  case neg=>
   rw [decide_eq_false g3] at hbe
   rw [if_pos g3]
   clear g3
   refine wk ?_
   exact RetH.mk (r':=.tup [.agg nilM,pbool false]) rfl weak_readN ⟨⟨_,rfl,WeakL.refl _⟩,⟨_,rfl,WeakL.refl _⟩,trivial⟩ ⟨⟨rfl,rfl⟩,trivial⟩
  rw [decide_eq_true g3] at hbe
  rw [if_neg (by simp [g3])]
  have hsb2:∀c∈bytesL s,0≤c∧c < 256:=bytesL_byte s
  have hdec:=pw_mDecode (bytesL s) (Byte.of hsb2) (by rw [bytesL_len];omega)
  rw [decA_eq hsb2] at hdec
  clear g3 hsb2
  have hsl:=bytesL_len s
  have hsc:=strC_eq s
  have hzz:=low_pmanL zeroM
  generalize bytesL s=t at *
  cases ho:decM t with
  |none=>
   rw [ho] at hdec
   clear ho
   refine wk ?_
   refine PWops.bytS rfl rfl rfl rfl rfl rfl rfl rfl rfl rfl rfl rfl (by omega) hsl.symm hsc ?_
   refine wk ?_
   exact RetH.mk (r':=readV none) rfl (Weak.refl _) ⟨⟨_,rfl,WeakL.refl _⟩,⟨_,rfl,WeakL.refl _⟩,trivial⟩ ⟨⟨rfl,rfl⟩,trivial⟩
  |some x=>
   rw [ho] at hdec
   clear ho
   have hxx:=low_pmanL x
   refine wk ?_
   refine PWops.bytS rfl rfl rfl rfl rfl rfl rfl rfl rfl rfl rfl rfl (by omega) hsl.symm hsc ?_
   refine wk ?_
   exact RetH.mk (r':=readV (some x)) rfl (Weak.refl _) ⟨⟨_,rfl,WeakL.refl _⟩,⟨_,rfl,WeakL.refl _⟩,trivial⟩ ⟨⟨rfl,rfl⟩,trivial⟩
end
end Go.Proofs.YtmeekbjhpidcgaaDoor
