/- Out of: Hd. -/
import Derived.Test.YtmeekbjhpidcgaaDoorG27
namespace Go.Proofs.YtmeekbjhpidcgaaDoor
set_option linter.unusedSimpArgs false
set_option linter.unusedVariables false
set_option linter.unnecessarySimpa false
section
open Go.RowKit
def h8L (s:H8):List Int := [s.a,s.b,s.c,s.d,s.e,s.f,s.g,s.h]
def zc (n:Nat):Nat:=(119 - n % 64) % 64
def hByteAt (m:Int) (i:Nat):Int:=IntKind.u8.wrap (m.fdiv (2 ^ (min (56 - 8 * (i:Int)).toNat IntKind.u64.bits)))
def be8 (m:Int) (k:Nat):List Int:=(List.range k).map (hByteAt m)
def padI (n:Nat):List Int:=128 :: List.replicate (zc n) 0 ++ be8 (IntKind.u64.wrap (8 * (n:Int))) 8
def outV (s:H8) (i:Nat):Int:=IntKind.u8.wrap (((h8L s).getD (i / 4) default).fdiv (2 ^ (min (24 - 8 * ((i:Int) % 4)).toNat IntKind.u32.bits)))
def outW (s:H8):Nat→List Int
 |0=>List.replicate 32 0
 |i+1=>(outW s i).set i (outV s i)
theorem outW_len (s:H8):∀i,(outW s i).length=32
 |0=>by simp [outW]
 |i+1=>by rw [outW,List.length_set,outW_len s i]
def sumS (ks:List Int) (s:Strm):List Int:=outW (addS ks s (padI s.n)).st 32
theorem pS_h {s:Strm} {j:Nat} (h:j < 8):(pS s)[j]? = some (pu32 ((h8L s.st).getD j default)):=by
 match j,h with
 |0,_=>rfl
 |1,_=>rfl
 |2,_=>rfl
 |3,_=>rfl
 |4,_=>rfl
 |5,_=>rfl
 |6,_=>rfl
 |7,_=>rfl
theorem hByteAt_ok (m:Int) (i:Nat):0≤hByteAt m i∧hByteAt m i < 256:=by
 unfold hByteAt
 rw [IntKind.wrap_u8];omega
theorem padI_byte (n:Nat):∀c∈padI n,0≤c∧c < 256:=by
 intro c hc
 rcases List.mem_append.1 hc with h|h
 ·rcases List.mem_cons.1 h with rfl|h
  ·decide
  ·obtain ⟨-,rfl⟩:=List.mem_replicate.1 h;decide
 ·obtain ⟨i,-,rfl⟩:=List.mem_map.1 h;exact hByteAt_ok _ _
theorem padI_len (n:Nat):(padI n).length=zc n+9:=by simp [padI,be8]
theorem turn_len {ks:List Int} {s:Strm} {x:List Int} (h:s.blk.length=64) (hx:s.n % 64+x.length≤64):(s.turn ks x).blk.length=64:=by
 rw [turn_blk,splI_len (by omega),h]
theorem addS_len (ks:List Int):∀(n:Nat) (s:Strm) (bs:List Int),bs.length=n→s.blk.length=64→(addS ks s bs).blk.length=64:=by
 intro n
 induction n using Nat.strongRecOn with
 |_ n ih=>
  intro s bs hl h
  by_cases h0:bs = []
  ·subst h0;rw [addS_nil];exact h
  ·have h1:bs.length≠0:=fun e=>h0 (List.eq_nil_of_length_eq_zero e)
   have h2:=Nat.mod_lt s.n (show 0 < 64 by omega)
   rw [addS_cons ks s h0]
   exact ih _ (by rw [←hl,List.length_drop];omega) _ _ rfl (turn_len h (by rw [List.length_take];omega))
set_option maxRecDepth 10000 in
set_option maxHeartbeats 2000000 in
theorem pw_sum (s:Strm) (hs:s.blk.length=64) (hn:s.n≤100000000000000):PCalls Tryd.prog 64 [.agg (pS s)] (· = .agg ((sumS glob0 s).map pbyte)):=by
 refine pcalls_of_pw typeTab_ok Tryd.func64 rfl (by kernel_rfl) (by intro p hp;simp at hp;subst hp;exact .agg _ (low_pS s)) (by simp [PV.ownB]) (Nat.le_of_ble_eq_true rfl) ?_
 have hlt:=Nat.mod_lt s.n (show 0 < 64 by omega)
 have l1:=low_pS s
 refine wk ?_
 refine PWops.boxA rfl rfl rfl rfl rfl (one_pS s) (bare_pS s) ?_
 refine wk ?_
 refine PWops.ldB rfl rfl rfl rfl rfl rfl rfl rfl (pS_n hs) rfl ?_
 refine wk ?_
 refine PW.loop (fun k:Nat=>((((((bot.setb 0 (pS s)).put 1 (.ptr 0 0)).setb 1 (List.replicate 32 (pbyte 0))).put 2 (.ptr 1 0)).put 3 (pu64 (IntKind.u64.wrap (8 * (s.n:Int))))).put 4 (.sl (k+1) 1 ((128 :: List.replicate k 0).map pbyte) (some 5)))) (fun k=>k≤zc s.n) (fun k=>zc s.n - k) 0 (by omega) ?_ ?_
 ·exact sb
 ·intro k hk
  have hz:zc s.n=(119 - s.n % 64) % 64:=rfl
  refine wk ?_
  refine PWops.ldB rfl rfl rfl rfl rfl rfl rfl rfl (pS_n hs) rfl ?_
  refine PWops.valE (q:=pint (s.n:Int)) rfl rfl rfl (by show PV.val (.int .i64 (IntKind.i64.wrap _))=PV.val _;try rw [wrap64_id (by omega) (by omega)]) rfl ?_
  by_cases hkz:k < zc s.n
  ·refine wk ?_
   refine loopP (k+1) (by omega) (by omega) ?_
   have e:(128 :: List.replicate (k+1) (0:Int)).map pbyte=(128 :: List.replicate k 0).map pbyte ++ [pbyte 0]:=by
    rw [List.replicate_succ'];simp
   have ll:Low (.sl (k+1+1) 1 ((128 :: List.replicate (k+1) (0:Int)).map pbyte) (some 5)):=low_mapB
   rw [e] at ll ⊢
   exact sb
  ·have e:k=zc s.n:=by omega
   subst e
   refine wk ?_
   have hp0:(128 :: List.replicate (zc s.n) (0:Int)) ++ be8 (IntKind.u64.wrap (8 * (s.n:Int))) 0=128 :: List.replicate (zc s.n) 0:=by simp [be8]
   have hpl:∀i,((128 :: List.replicate (zc s.n) (0:Int)) ++ be8 (IntKind.u64.wrap (8 * (s.n:Int))) i).length=zc s.n+1+i:=by intro i;simp [be8];omega
   refine PW.loop (fun i:Nat=>((((((bot.setb 0 (pS s)).put 1 (.ptr 0 0)).setb 1 (List.replicate 32 (pbyte 0))).put 2 (.ptr 1 0)).put 3 (pu64 (IntKind.u64.wrap (8 * (s.n:Int))))).put 4 (.sl (zc s.n+1+i) 1 (((128 :: List.replicate (zc s.n) 0) ++ be8 (IntKind.u64.wrap (8 * (s.n:Int))) i).map pbyte) (some 5))).put 23 (pint i)) (fun i=>i≤8) (fun i=>8 - i) 0 (by omega) ?_ ?_
   ·rw [hp0]
    exact sb
   ·intro i hi
    by_cases h8:i < 8
    ·refine wk ?_
     refine loopP (i+1) (by omega) (by omega) ?_
     have e2:((128 :: List.replicate (zc s.n) (0:Int)) ++ be8 (IntKind.u64.wrap (8 * (s.n:Int))) (i+1)).map pbyte=((128 :: List.replicate (zc s.n) (0:Int)) ++ be8 (IntKind.u64.wrap (8 * (s.n:Int))) i).map pbyte ++ [pbyte (hByteAt (IntKind.u64.wrap (8 * (s.n:Int))) i)]:=by
      rw [be8,be8,List.range_succ];simp
     have ll:Low (.sl (zc s.n+1+(i+1)) 1 (((128 :: List.replicate (zc s.n) (0:Int)) ++ be8 (IntKind.u64.wrap (8 * (s.n:Int))) (i+1)).map pbyte) (some 5)):=low_mapB
     rw [e2] at ll ⊢
     exact sb
    ·have e:i=8:=by omega
     subst e
     have ha:=pw_add s (padI s.n) hs (padI_byte _) (by rw [padI_len];omega)
     have hul:=addS_len glob0 _ s (padI s.n) rfl hs
     obtain ⟨u,hu⟩:∃u,u=addS glob0 s (padI s.n):=⟨_,rfl⟩
     rw [←hu] at ha hul
     rw [show sumS glob0 s=outW u.st 32 by rw [sumS,hu]]
     have l2:=low_pS u
     refine wk ?_
     refine PWops.ldAll rfl rfl rfl rfl rfl rfl rfl (len_pS hs) (bare_pS s) ?_
     refine wk ?_
     refine PWops.stAll rfl rfl rfl rfl rfl rfl rfl rfl rfl (len_pS hul) (len_pS hs) (one_pS u) (bare_pS u) ?_
     refine wk ?_
     refine PW.loop (fun i:Nat=>((((((bot.setb 0 (pS u)).put 1 (.ptr 0 0)).setb 1 (List.replicate 32 (pbyte 0))).put 2 (.ptr 1 0)).setb 11000 ((outW u.st i).map pbyte)).put 6 (.ptr 11000 0)).put 40 (pint i)) (fun i=>i≤32) (fun i=>32 - i) 0 (by omega) ?_ ?_
     ·exact sb
     ·intro i hi
      have hol:=outW_len u.st i
      by_cases h32:i < 32
      ·have hc:(pS u)[((i:Int) / 4).toNat]? = some (pu32 ((h8L u.st).getD (i / 4) default)):=by
        rw [show ((i:Int) / 4).toNat=i / 4 by omega];exact pS_h (by omega)
       have hS:(outW u.st (i+1)).map pbyte=((outW u.st i).set (i:Int).toNat (outV u.st i)).map pbyte:=rfl
       refine wk ?_
       refine PWops.ldB rfl rfl rfl rfl rfl rfl rfl rfl hc rfl ?_
       refine wk ?_
       refine loopP (i+1) (by omega) (by omega) ?_
       exact sb
      ·have e:i=32:=by omega
       subst e
       generalize outW u.st 32=O at *
       refine wk ?_
       exact ⟨_,presult1 (pres_cell rfl rfl rfl (len_map hol) (bare_map (fun _=>rfl) _)),by exact lw,rfl⟩
end
end Go.Proofs.YtmeekbjhpidcgaaDoor
