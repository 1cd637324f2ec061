/- Out of: Hc, Hd, He, Jb, PwCl. -/
import Derived.Test.YtmeekbjhpidcgaaGreatDoorG32
namespace Go.Proofs.YtmeekbjhpidcgaaGreatDoor
set_option linter.unusedSimpArgs false
set_option linter.unusedVariables false
set_option linter.unnecessarySimpa false
section
open Go.RowKit
structure Strm where
 st:H8
 blk:List Int
 n:Nat
def pS (s:Strm):List PV:=pH s.st ++ (s.blk.map pbyte ++ [pu64 s.n])
theorem low_pS (s:Strm):∀c∈pS s,Low c:=by
 intro c hc
 rcases List.mem_append.1 hc with h|h
 ·exact low_pH _ c h
 ·rcases List.mem_append.1 h with h|h
  ·exact low_map (fun _=>Low.val _) _ c h
  ·simp at h;subst h;exact .val _
theorem bare_pS (s:Strm):(pS s).map PV.bare=pS s:=by
 have:(s.blk.map pbyte).map PV.bare=s.blk.map pbyte:=bare_map (fun _=>rfl) _
 rw [pS,List.map_append,List.map_append,this];rfl
theorem one_pS (s:Strm):(pS s).all PV.one=true:=by
 have:(s.blk.map pbyte).all PV.one=true:=one_map (fun _=>rfl) _
 rw [pS,List.all_append,List.all_append,this];rfl
theorem len_pS {s:Strm} (h:s.blk.length=64):(pS s).length=73:=by simp [pS,pH,h]
def splI (l:List Int) (at_:Nat) (x:List Int):List Int:=l.take at_ ++ x ++ l.drop (at_+x.length)
def Strm.put (s:Strm) (x:List Int):Strm:=⟨s.st,splI s.blk (s.n % 64) x,s.n+x.length⟩
def Strm.full (s:Strm) (ks:List Int):Strm:=⟨cmpH ks s.st s.blk,s.blk,s.n⟩
def Strm.turn (ks:List Int) (s:Strm) (x:List Int):Strm:=if s.n % 64+x.length=64 then (s.put x).full ks else s.put x
def addS (ks:List Int) (s:Strm) (bs:List Int):Strm:=
 if h:bs = [] then s else addS ks (s.turn ks (bs.take (64 - s.n % 64))) (bs.drop (64 - s.n % 64))
termination_by bs.length
decreasing_by
 rw [List.length_drop]
 have:bs.length≠0:=fun e=>h (List.eq_nil_of_length_eq_zero e)
 have:=Nat.mod_lt s.n (show 0 < 64 by omega)
 omega
theorem addS_nil (ks:List Int) (s:Strm):addS ks s []=s:=by rw [addS];simp
theorem addS_cons (ks:List Int) (s:Strm) {bs:List Int} (h:bs ≠ []):addS ks s bs=addS ks (s.turn ks (bs.take (64 - s.n % 64))) (bs.drop (64 - s.n % 64)):=by rw [addS,dif_neg h]
theorem splI_len {l x:List Int} {a:Nat} (h:a+x.length≤l.length):(splI l a x).length=l.length:=by
 simp only [splI,List.length_append,List.length_take,List.length_drop];omega
theorem turn_blk (ks:List Int) (s:Strm) (x:List Int):(s.turn ks x).blk=splI s.blk (s.n % 64) x:=by
 unfold Strm.turn;split<;>rfl
theorem turn_n (ks:List Int) (s:Strm) (x:List Int):(s.turn ks x).n=s.n+x.length:=by
 unfold Strm.turn;split<;>rfl
theorem flat_pH (s:H8):∀c∈pH s,Flat c:=by intro c hc;simp [pH] at hc;rcases hc with rfl|rfl|rfl|rfl|rfl|rfl|rfl|rfl<;>exact .val _
theorem pS_n {s:Strm} (h:s.blk.length=64):(pS s)[72]? = some (pu64 s.n):=by
 rw [pS,List.getElem?_append_right (by simp [pH]),List.getElem?_append_right (by simp [pH,h])]
 simp [pH,h]
theorem pS_setN {s:Strm} (h:s.blk.length=64) (m:Nat):splice (pS s) (0+72) [pu64 m]=pS ⟨s.st,s.blk,m⟩:=by
 have h1:(pS s).take 72=pH s.st ++ s.blk.map pbyte:=by
  rw [pS,←List.append_assoc,List.take_left' (by simp [pH,h])]
 have h2:(pS s).drop 73 = []:=List.drop_eq_nil_of_le (by rw [len_pS h];omega)
 show (pS s).take 72 ++ [pu64 m] ++ (pS s).drop 73=_
 rw [h1,h2,List.append_nil,pS,List.append_assoc]
theorem pS_setH {s:Strm} (v:H8):splice (pS s) 0 (pH v)=pS ⟨v,s.blk,s.n⟩:=by
 show (pS s).take 0 ++ pH v ++ (pS s).drop 8=_
 rfl
theorem pS_setB {s:Strm} (h:s.blk.length=64) {a:Nat} {X:List Int} (hx:a+X.length≤64):splice (pS s) (8+a) (X.map pbyte)=pS ⟨s.st,splI s.blk a X,s.n⟩:=by
 have hp:(pH s.st).length=8:=rfl
 unfold splice
 have h1:(pS s).take (8+a)=pH s.st ++ (s.blk.take a).map pbyte:=by
  rw [pS,←hp,List.take_append,List.take_append_of_le_length (by simp;omega),List.take_of_length_le (by omega),Nat.add_sub_cancel_left,List.map_take]
 have h2:(pS s).drop (8+a+(X.map pbyte).length)=(s.blk.drop (a+X.length)).map pbyte ++ [pu64 s.n]:=by
  rw [pS,List.length_map,Nat.add_assoc,←hp,List.drop_append,List.drop_append_of_le_length (by simp;omega),List.drop_eq_nil_of_le (by omega),Nat.add_sub_cancel_left,List.nil_append,List.map_drop]
 rw [h1,h2,pS,splI]
 simp
theorem strOf_cells {M:List Int} (h:∀c∈M,0≤c∧c < 256):(strOf M).data.toList.map (fun x=>PV.val (.int .u8 (x.toNat:Int)))=M.map pbyte:=by
 have h1:=bytesL_strOf M h
 conv=>rhs;rw [←h1]
 rw [bytesL,List.map_map];rfl
theorem heqB_iff {a b:ByteArray} : (a.toList == b.toList)=true↔a=b:=by
 rw [ByteArray.toList_eq,ByteArray.toList_eq,beq_iff_eq]
 exact ⟨fun h=>ba_ext h,fun h=>h ▸ rfl⟩
theorem htoList_ne {a b:ByteArray} (h:a≠b):(a.toList == b.toList)=false:=by
 cases hh:(a.toList == b.toList) with
 |false=>rfl
 |true=>exact absurd (heqB_iff.1 hh) h
def zeroS:Strm:=⟨⟨0,0,0,0,0,0,0,0⟩,List.replicate 64 0,0⟩
theorem strOf_drop {bs:List Int} (h:∀c∈bs,0≤c∧c < 256) (k:Nat):(strOf bs).extract k (strOf bs).size=strOf (bs.drop k):=by
 apply ByteArray.ext
 apply Array.ext'
 rw [strOf_data,ByteArray.data_extract,Array.toList_extract,strOf_data,strOf_size,List.extract_eq_take_drop,List.map_drop,List.take_of_length_le (by simp)]
set_option maxRecDepth 10000 in
set_option maxHeartbeats 2000000 in
theorem pw_add (s:Strm) (bs:List Int) (hs:s.blk.length=64) (hb:∀c∈bs,0≤c∧c < 256) (hn:s.n+bs.length≤1000000000000000):PCalls Tryz.prog 98 [.agg (pS s),pstr (strOf bs)] (· = .agg (pS (addS glob0 s bs))):=by
 refine pcalls_of_pw typeTab_ok Tryz.func98 rfl (by kernel_rfl) (by intro p hp;simp at hp;rcases hp with rfl|rfl;exact .agg _ (low_pS s);exact lw) (by simp [pstr,PV.ownB]) (Nat.le_of_ble_eq_true rfl) ?_
 refine wk ?_
 refine PWops.boxA rfl rfl rfl rfl rfl (one_pS s) (bare_pS s) ?_
 refine wk ?_
 refine PW.loop (fun x:Strm×List Int=>((((bot.setb 0 (pS x.1)).put 2 (.ptr 0 0)).setb 1 (pS zeroS)).put 4 (.ptr 1 0)).put 1 (pstr (strOf x.2))) (fun x=>x.1.blk.length=64∧(∀c∈x.2,0≤c∧c < 256)∧x.1.n+x.2.length≤1000000000000000∧addS glob0 x.1 x.2=addS glob0 s bs) (fun x=>x.2.length) (s,bs) ⟨hs,hb,hn,rfl⟩ ?_ ?_
 ·dsimp only
  have l1:=low_pS s
  have l2:=low_pS zeroS
  exact sb
 ·rintro ⟨u,M⟩ ⟨hu,hM,hun,he⟩
  simp only at hu hM hun he
  simp only
  have hlt:=Nat.mod_lt u.n (show 0 < 64 by omega)
  by_cases h0:M = []
  ·have hne:(!((strOf M).toList == ByteArray.empty.toList))=false:=by subst h0;rw [show strOf []=ByteArray.empty from rfl];simp
   refine wk ?_
   refine PWops.ldAll rfl rfl rfl rfl rfl rfl rfl (len_pS hu) (bare_pS u) ?_
   refine PWops.stAll rfl rfl rfl rfl rfl rfl rfl rfl rfl (len_pS hu) (len_pS (s:=zeroS) rfl) (one_pS u) (bare_pS u) ?_
   refine wk ?_
   refine ⟨_,presult1 (pres_cell rfl rfl rfl (len_pS hu) (bare_pS u)), .agg _ (low_pS u),?_⟩
   rw [←he,h0,addS_nil]
  ·have hne:(!((strOf M).toList == ByteArray.empty.toList))=true:=by
    have h1:strOf M≠ByteArray.empty:=by
     intro h;apply h0
     have h2:(strOf M).size=0:=by rw [h];rfl
     rw [strOf_size] at h2;exact List.eq_nil_of_length_eq_zero h2
    rw [htoList_ne h1];rfl
   have hnn:(pS u)[72]? = some (pu64 u.n):=by
    rw [pS,List.getElem?_append_right (by simp [pH]),List.getElem?_append_right (by simp [pH,hu])]
    simp [pH,hu]
   refine wk ?_
   refine PWops.ldB rfl rfl rfl rfl rfl rfl rfl rfl hnn rfl ?_
   refine PWops.remU (b:=64) rfl rfl rfl rfl rfl rfl rfl rfl (by decide) ?_
   refine PWops.valE (q:=pint ((u.n % 64:Nat):Int)) rfl rfl rfl (by show PV.val (.int .i64 (IntKind.i64.wrap _))=PV.val _;try rw [wrap64_id (by omega) (by omega)]) rfl ?_
   refine wk ?_
   refine PWops.slcP (h:=64) (l:=u.n % 64) rfl rfl rfl rfl rfl rfl rfl rfl (by simp [pbound,pev,PS.put,upd,PV.bare];omega) (by decide) ?_
   refine wk ?_
   have hX:(M.take (64 - u.n % 64)).length=min M.length (64 - u.n % 64):=by rw [List.length_take];omega
   have hbl:(splI u.blk (u.n % 64) (M.take (64 - u.n % 64))).length=64:=by rw [splI_len (by rw [hX,hu];omega),hu]
   have hM0:M.length≠0:=fun e=>h0 (List.eq_nil_of_length_eq_zero e)
   refine PWops.copy (out:=pS ⟨u.st,splI u.blk (u.n % 64) (M.take (64 - u.n % 64)),u.n⟩) (n2:=M.length) (cs:=M.map pbyte) rfl rfl rfl rfl rfl (by show (some ((strOf M).size,(strOf M).data.toList.map (fun x=>PV.val (.int .u8 (x.toNat:Int)))):Option _)=_;rw [strOf_cells hM,strOf_size]) rfl rfl rfl ?_ ?_ ?_ ?_
   ·rw [len_pS hu];omega
   ·rw [List.length_map];omega
   ·rw [←pS_setB hu (by rw [hX];omega),Nat.zero_add,Nat.mul_one,Nat.mul_one,←List.map_take]
    congr 2
    exact List.take_eq_take_iff.2 (by omega)
   refine wk ?_
   refine PWops.slcS (k:=min M.length (64 - u.n % 64)) (q:=strOf (M.drop (64 - u.n % 64))) rfl rfl rfl rfl rfl rfl rfl rfl rfl (by rw [strOf_size];omega) ?_ ?_
   ·rw [strOf_drop hM]
    congr 1
    by_cases hh:M.length≤64 - u.n % 64
    ·rw [Nat.min_eq_left hh,List.drop_eq_nil_of_le (Nat.le_refl _),List.drop_eq_nil_of_le hh]
    ·rw [Nat.min_eq_right (by omega)]
   refine wk ?_
   refine PWops.ldB rfl rfl rfl rfl rfl rfl rfl rfl (pS_n hbl) rfl ?_
   refine PWops.idd ?_
   first|refine PWops.cvI rfl rfl rfl rfl (by (first|omega|(dsimp only;omega))) (by (first|omega|(dsimp only;omega))) rfl ?_|refine PWops.stepA rfl ?_|refine PWops.doneI rfl ?_|refine PWops.boolK true rfl rfl rfl rfl (by (first|rfl|assumption|(simp only [decide_eq_true_eq,decide_eq_false_iff_not,bne_iff_ne,beq_iff_eq,beq_eq_false_iff_ne,bne_eq_false_iff_eq,ne_eq];omega))) rfl ?_|refine PWops.boolK false rfl rfl rfl rfl (by (first|rfl|assumption|(simp only [decide_eq_true_eq,decide_eq_false_iff_not,bne_iff_ne,beq_iff_eq,beq_eq_false_iff_ne,bne_eq_false_iff_eq,ne_eq];omega))) rfl ?_|refine PWops.fitsK rfl rfl rfl rfl (by (first|omega|(dsimp only;omega))) (by (first|omega|(dsimp only;omega))) rfl ?_|refine PWops.remK rfl rfl rfl rfl (by (first|omega|(dsimp only;omega))) rfl ?_|refine PWops.quoK rfl rfl rfl rfl (by (first|omega|(dsimp only;omega))) rfl ?_|refine PWops.app rfl rfl rfl rfl rfl rfl rfl rfl (by (first|omega|(dsimp only;omega))) (by (first|omega|(dsimp only;omega))) (by first|rfl|exact secL_one _|exact putL_one _|exact one_pint _|exact one_pstr _|exact one_pbyte _|exact one_pattrs _) ?_|refine PWops.app0 rfl rfl rfl rfl rfl rfl rfl rfl (by (first|omega|(dsimp only;omega))) (by (first|omega|(dsimp only;omega))) (by first|rfl|exact secL_one _|exact putL_one _|exact one_pint _|exact one_pstr _|exact one_pbyte _|exact one_pattrs _) ?_|refine PWops.idx1 rfl rfl rfl rfl rfl rfl rfl rfl (by (first|omega|(dsimp only;omega))) ?_|refine PWops.idx rfl rfl rfl rfl rfl rfl rfl rfl (by (first|omega|(dsimp only;omega))) ?_|refine PWops.ld rfl rfl rfl rfl rfl rfl rfl (by assumption) rfl ?_|refine PWops.ldA rfl rfl rfl rfl rfl rfl (by (first|omega|(dsimp only;omega))) (by assumption) ?_|refine PWops.str rfl rfl rfl rfl rfl rfl rfl rfl rfl rfl rfl ?_
   first|refine PWops.cvI rfl rfl rfl rfl (by (first|omega|(dsimp only;omega))) (by (first|omega|(dsimp only;omega))) rfl ?_|refine PWops.stepA rfl ?_|refine PWops.doneI rfl ?_|refine PWops.boolK true rfl rfl rfl rfl (by (first|rfl|assumption|(simp only [decide_eq_true_eq,decide_eq_false_iff_not,bne_iff_ne,beq_iff_eq,beq_eq_false_iff_ne,bne_eq_false_iff_eq,ne_eq];omega))) rfl ?_|refine PWops.boolK false rfl rfl rfl rfl (by (first|rfl|assumption|(simp only [decide_eq_true_eq,decide_eq_false_iff_not,bne_iff_ne,beq_iff_eq,beq_eq_false_iff_ne,bne_eq_false_iff_eq,ne_eq];omega))) rfl ?_|refine PWops.fitsK rfl rfl rfl rfl (by (first|omega|(dsimp only;omega))) (by (first|omega|(dsimp only;omega))) rfl ?_|refine PWops.remK rfl rfl rfl rfl (by (first|omega|(dsimp only;omega))) rfl ?_|refine PWops.quoK rfl rfl rfl rfl (by (first|omega|(dsimp only;omega))) rfl ?_|refine PWops.app rfl rfl rfl rfl rfl rfl rfl rfl (by (first|omega|(dsimp only;omega))) (by (first|omega|(dsimp only;omega))) (by first|rfl|exact secL_one _|exact putL_one _|exact one_pint _|exact one_pstr _|exact one_pbyte _|exact one_pattrs _) ?_|refine PWops.app0 rfl rfl rfl rfl rfl rfl rfl rfl (by (first|omega|(dsimp only;omega))) (by (first|omega|(dsimp only;omega))) (by first|rfl|exact secL_one _|exact putL_one _|exact one_pint _|exact one_pstr _|exact one_pbyte _|exact one_pattrs _) ?_|refine PWops.idx1 rfl rfl rfl rfl rfl rfl rfl rfl (by (first|omega|(dsimp only;omega))) ?_|refine PWops.idx rfl rfl rfl rfl rfl rfl rfl rfl (by (first|omega|(dsimp only;omega))) ?_|refine PWops.ld rfl rfl rfl rfl rfl rfl rfl (by assumption) rfl ?_|refine PWops.ldA rfl rfl rfl rfl rfl rfl (by (first|omega|(dsimp only;omega))) (by assumption) ?_|refine PWops.str rfl rfl rfl rfl rfl rfl rfl rfl rfl rfl rfl ?_
   refine PWops.valE (q:=pu64 ((u.n+min M.length (64 - u.n % 64):Nat):Int)) rfl rfl rfl (by show PV.val (.int .u64 (IntKind.u64.wrap ((u.n:Int)+IntKind.u64.wrap _)))=PV.val _;rw [IntWalk.u64_in ((min M.length (64 - u.n % 64):Nat):Int) (by omega),IntWalk.u64_in _ (by omega)];congr 2) rfl ?_
   refine wk ?_
   refine PWops.stB (new := [pu64 ((u.n+min M.length (64 - u.n % 64):Nat):Int)]) rfl rfl rfl rfl rfl rfl rfl rfl rfl ⟨rfl,by rw [len_pS hbl];show 0+72+1≤73;omega⟩ (pS_setN hbl _) ?_
   have hdl:(M.drop (64 - u.n % 64)).length=M.length - (64 - u.n % 64):=List.length_drop
   have l2:=low_pS zeroS
   by_cases hful:u.n % 64+min M.length (64 - u.n % 64)=64
   ·have hc:=HCalls.ofP (gm := []) (given := [(0,pS ⟨u.st,splI u.blk (u.n % 64) (M.take (64 - u.n % 64)),u.n+min M.length (64 - u.n % 64)⟩)]) (args' := [.agg (pH u.st), .msl 0 (0+8+0 * 1) (64 - 0) 1]) (pw_compress u.st (splI u.blk (u.n % 64) (M.take (64 - u.n % 64))) hbl)
     (.cons (.same _) (by
      have e:pbytes (splI u.blk (u.n % 64) (M.take (64 - u.n % 64))) = .sl (64 - 0) 1 (((pS ⟨u.st,splI u.blk (u.n % 64) (M.take (64 - u.n % 64)),u.n+min M.length (64 - u.n % 64)⟩).drop (0+8+0 * 1)).take ((64 - 0) * 1)) none:=by
       rw [pbytes]
       refine sl_eq (by rw [hbl]) ?_
       show _=(((splI u.blk (u.n % 64) (M.take (64 - u.n % 64))).map pbyte ++ [_])).take 64
       rw [List.take_left' (by rw [List.length_map,hbl])]
      rw [e]
      exact .cons (.msl _ _ _ _ _ (by simp) (by rw [len_pS hbl];decide)) .nil))
     (fun x hx c hcx=>by simp at hx;subst hx;exact (low_pS _ c hcx).lowI) (by simp) (.agg _ (flat_pH _)) rfl
    refine wk ?_
    refine PWops.stB (new:=pH (cmpH glob0 u.st (splI u.blk (u.n % 64) (M.take (64 - u.n % 64))))) rfl rfl rfl rfl rfl rfl rfl rfl rfl ⟨rfl,by rw [len_pS hbl];show 0+8≤73;omega⟩ (pS_setH _) ?_
    refine wk ?_
    have ht:u.turn glob0 (M.take (64 - u.n % 64))=⟨cmpH glob0 u.st (splI u.blk (u.n % 64) (M.take (64 - u.n % 64))),splI u.blk (u.n % 64) (M.take (64 - u.n % 64)),u.n+min M.length (64 - u.n % 64)⟩:=by rw [Strm.turn,if_pos (by rw [hX];exact hful),Strm.put,Strm.full,hX]
    have l1:=low_pS ⟨cmpH glob0 u.st (splI u.blk (u.n % 64) (M.take (64 - u.n % 64))),splI u.blk (u.n % 64) (M.take (64 - u.n % 64)),u.n+min M.length (64 - u.n % 64)⟩
    refine loopP (⟨cmpH glob0 u.st (splI u.blk (u.n % 64) (M.take (64 - u.n % 64))),splI u.blk (u.n % 64) (M.take (64 - u.n % 64)),u.n+min M.length (64 - u.n % 64)⟩,M.drop (64 - u.n % 64)) ⟨hbl,fun c hcx=>hM c (List.mem_of_mem_drop hcx),by simp only [hdl];omega,?_⟩ (by simp only [hdl];omega) ?_
    ·rw [←he,addS_cons glob0 u h0,ht]
    ·dsimp only
     exact sb
   ·refine wk ?_
    have ht:u.turn glob0 (M.take (64 - u.n % 64))=⟨u.st,splI u.blk (u.n % 64) (M.take (64 - u.n % 64)),u.n+min M.length (64 - u.n % 64)⟩:=by rw [Strm.turn,if_neg (by rw [hX];exact hful),Strm.put,hX]
    have l1:=low_pS ⟨u.st,splI u.blk (u.n % 64) (M.take (64 - u.n % 64)),u.n+min M.length (64 - u.n % 64)⟩
    refine loopP (⟨u.st,splI u.blk (u.n % 64) (M.take (64 - u.n % 64)),u.n+min M.length (64 - u.n % 64)⟩,M.drop (64 - u.n % 64)) ⟨hbl,fun c hcx=>hM c (List.mem_of_mem_drop hcx),by simp only [hdl];omega,?_⟩ (by simp only [hdl];omega) ?_
    ·rw [←he,addS_cons glob0 u h0,ht]
    ·dsimp only
     exact sb
def h8L (s:H8):List Int := [s.a,s.b,s.c,s.d,s.e,s.f,s.g,s.h]
def zc (n:Nat):Nat:=(119 - n % 64) % 64
def hByteAt (m:Int) (i:Nat):Int:=IntKind.u8.wrap (m.fdiv (2 ^ (min (56 - 8 * (i:Int)).toNat IntKind.u64.bits)))
def be8 (m:Int) (k:Nat):List Int:=(List.range k).map (hByteAt m)
def padI (n:Nat):List Int:=128 :: List.replicate (zc n) 0 ++ be8 (IntKind.u64.wrap (8 * (n:Int))) 8
def outV (s:H8) (i:Nat):Int:=IntKind.u8.wrap (((h8L s).getD (i / 4) default).fdiv (2 ^ (min (24 - 8 * ((i:Int) % 4)).toNat IntKind.u32.bits)))
def outW (s:H8):Nat→List Int
 |0=>List.replicate 32 0
 |i+1=>(outW s i).set i (outV s i)
theorem outW_len (s:H8):∀i,(outW s i).length=32
 |0=>by simp [outW]
 |i+1=>by rw [outW,List.length_set,outW_len s i]
def sumS (ks:List Int) (s:Strm):List Int:=outW (addS ks s (padI s.n)).st 32
theorem pS_h {s:Strm} {j:Nat} (h:j < 8):(pS s)[j]? = some (pu32 ((h8L s.st).getD j default)):=by
 match j,h with
 |0,_=>rfl
 |1,_=>rfl
 |2,_=>rfl
 |3,_=>rfl
 |4,_=>rfl
 |5,_=>rfl
 |6,_=>rfl
 |7,_=>rfl
theorem hByteAt_ok (m:Int) (i:Nat):0≤hByteAt m i∧hByteAt m i < 256:=by
 unfold hByteAt
 rw [IntKind.wrap_u8];omega
theorem padI_byte (n:Nat):∀c∈padI n,0≤c∧c < 256:=by
 intro c hc
 rcases List.mem_append.1 hc with h|h
 ·rcases List.mem_cons.1 h with rfl|h
  ·decide
  ·obtain ⟨-,rfl⟩:=List.mem_replicate.1 h;decide
 ·obtain ⟨i,-,rfl⟩:=List.mem_map.1 h;exact hByteAt_ok _ _
theorem padI_len (n:Nat):(padI n).length=zc n+9:=by simp [padI,be8]
theorem turn_len {ks:List Int} {s:Strm} {x:List Int} (h:s.blk.length=64) (hx:s.n % 64+x.length≤64):(s.turn ks x).blk.length=64:=by
 rw [turn_blk,splI_len (by omega),h]
theorem addS_len (ks:List Int):∀(n:Nat) (s:Strm) (bs:List Int),bs.length=n→s.blk.length=64→(addS ks s bs).blk.length=64:=by
 intro n
 induction n using Nat.strongRecOn with
 |_ n ih=>
  intro s bs hl h
  by_cases h0:bs = []
  ·subst h0;rw [addS_nil];exact h
  ·have h1:bs.length≠0:=fun e=>h0 (List.eq_nil_of_length_eq_zero e)
   have h2:=Nat.mod_lt s.n (show 0 < 64 by omega)
   rw [addS_cons ks s h0]
   exact ih _ (by rw [←hl,List.length_drop];omega) _ _ rfl (turn_len h (by rw [List.length_take];omega))
set_option maxRecDepth 10000 in
set_option maxHeartbeats 2000000 in
theorem pw_sum (s:Strm) (hs:s.blk.length=64) (hn:s.n≤100000000000000):PCalls Tryz.prog 99 [.agg (pS s)] (· = .agg ((sumS glob0 s).map pbyte)):=by
 refine pcalls_of_pw typeTab_ok Tryz.func99 rfl (by kernel_rfl) (by intro p hp;simp at hp;subst hp;exact .agg _ (low_pS s)) (by simp [PV.ownB]) (Nat.le_of_ble_eq_true rfl) ?_
 have hlt:=Nat.mod_lt s.n (show 0 < 64 by omega)
 have l1:=low_pS s
 refine wk ?_
 refine PWops.boxA rfl rfl rfl rfl rfl (one_pS s) (bare_pS s) ?_
 refine wk ?_
 refine PWops.ldB rfl rfl rfl rfl rfl rfl rfl rfl (pS_n hs) rfl ?_
 refine wk ?_
 refine PW.loop (fun k:Nat=>((((((bot.setb 0 (pS s)).put 1 (.ptr 0 0)).setb 1 (List.replicate 32 (pbyte 0))).put 2 (.ptr 1 0)).put 3 (pu64 (IntKind.u64.wrap (8 * (s.n:Int))))).put 4 (.sl (k+1) 1 ((128 :: List.replicate k 0).map pbyte) (some 5)))) (fun k=>k≤zc s.n) (fun k=>zc s.n - k) 0 (by omega) ?_ ?_
 ·exact sb
 ·intro k hk
  have hz:zc s.n=(119 - s.n % 64) % 64:=rfl
  refine wk ?_
  refine PWops.ldB rfl rfl rfl rfl rfl rfl rfl rfl (pS_n hs) rfl ?_
  refine PWops.valE (q:=pint (s.n:Int)) rfl rfl rfl (by show PV.val (.int .i64 (IntKind.i64.wrap _))=PV.val _;try rw [wrap64_id (by omega) (by omega)]) rfl ?_
  by_cases hkz:k < zc s.n
  ·refine wk ?_
   refine loopP (k+1) (by omega) (by omega) ?_
   have e:(128 :: List.replicate (k+1) (0:Int)).map pbyte=(128 :: List.replicate k 0).map pbyte ++ [pbyte 0]:=by
    rw [List.replicate_succ'];simp
   have ll:Low (.sl (k+1+1) 1 ((128 :: List.replicate (k+1) (0:Int)).map pbyte) (some 5)):=low_mapB
   rw [e] at ll ⊢
   exact sb
  ·have e:k=zc s.n:=by omega
   subst e
   refine wk ?_
   have hp0:(128 :: List.replicate (zc s.n) (0:Int)) ++ be8 (IntKind.u64.wrap (8 * (s.n:Int))) 0=128 :: List.replicate (zc s.n) 0:=by simp [be8]
   have hpl:∀i,((128 :: List.replicate (zc s.n) (0:Int)) ++ be8 (IntKind.u64.wrap (8 * (s.n:Int))) i).length=zc s.n+1+i:=by intro i;simp [be8];omega
   refine PW.loop (fun i:Nat=>((((((bot.setb 0 (pS s)).put 1 (.ptr 0 0)).setb 1 (List.replicate 32 (pbyte 0))).put 2 (.ptr 1 0)).put 3 (pu64 (IntKind.u64.wrap (8 * (s.n:Int))))).put 4 (.sl (zc s.n+1+i) 1 (((128 :: List.replicate (zc s.n) 0) ++ be8 (IntKind.u64.wrap (8 * (s.n:Int))) i).map pbyte) (some 5))).put 23 (pint i)) (fun i=>i≤8) (fun i=>8 - i) 0 (by omega) ?_ ?_
   ·rw [hp0]
    exact sb
   ·intro i hi
    by_cases h8:i < 8
    ·refine wk ?_
     refine loopP (i+1) (by omega) (by omega) ?_
     have e2:((128 :: List.replicate (zc s.n) (0:Int)) ++ be8 (IntKind.u64.wrap (8 * (s.n:Int))) (i+1)).map pbyte=((128 :: List.replicate (zc s.n) (0:Int)) ++ be8 (IntKind.u64.wrap (8 * (s.n:Int))) i).map pbyte ++ [pbyte (hByteAt (IntKind.u64.wrap (8 * (s.n:Int))) i)]:=by
      rw [be8,be8,List.range_succ];simp
     have ll:Low (.sl (zc s.n+1+(i+1)) 1 (((128 :: List.replicate (zc s.n) (0:Int)) ++ be8 (IntKind.u64.wrap (8 * (s.n:Int))) (i+1)).map pbyte) (some 5)):=low_mapB
     rw [e2] at ll ⊢
     exact sb
    ·have e:i=8:=by omega
     subst e
     have ha:=pw_add s (padI s.n) hs (padI_byte _) (by rw [padI_len];omega)
     have hul:=addS_len glob0 _ s (padI s.n) rfl hs
     obtain ⟨u,hu⟩:∃u,u=addS glob0 s (padI s.n):=⟨_,rfl⟩
     rw [←hu] at ha hul
     rw [show sumS glob0 s=outW u.st 32 by rw [sumS,hu]]
     have l2:=low_pS u
     refine wk ?_
     refine PWops.ldAll rfl rfl rfl rfl rfl rfl rfl (len_pS hs) (bare_pS s) ?_
     refine wk ?_
     refine PWops.stAll rfl rfl rfl rfl rfl rfl rfl rfl rfl (len_pS hul) (len_pS hs) (one_pS u) (bare_pS u) ?_
     refine wk ?_
     refine PW.loop (fun i:Nat=>((((((bot.setb 0 (pS u)).put 1 (.ptr 0 0)).setb 1 (List.replicate 32 (pbyte 0))).put 2 (.ptr 1 0)).setb 11000 ((outW u.st i).map pbyte)).put 6 (.ptr 11000 0)).put 40 (pint i)) (fun i=>i≤32) (fun i=>32 - i) 0 (by omega) ?_ ?_
     ·exact sb
     ·intro i hi
      have hol:=outW_len u.st i
      by_cases h32:i < 32
      ·have hc:(pS u)[((i:Int) / 4).toNat]? = some (pu32 ((h8L u.st).getD (i / 4) default)):=by
        rw [show ((i:Int) / 4).toNat=i / 4 by omega];exact pS_h (by omega)
       have hS:(outW u.st (i+1)).map pbyte=((outW u.st i).set (i:Int).toNat (outV u.st i)).map pbyte:=rfl
       refine wk ?_
       refine PWops.ldB rfl rfl rfl rfl rfl rfl rfl rfl hc rfl ?_
       refine wk ?_
       refine loopP (i+1) (by omega) (by omega) ?_
       exact sb
      ·have e:i=32:=by omega
       subst e
       generalize outW u.st 32=O at *
       refine wk ?_
       exact ⟨_,presult1 (pres_cell rfl rfl rfl (len_map hol) (bare_map (fun _=>rfl) _)),by exact lw,rfl⟩
def beginS:Strm:=⟨⟨1779033703,3144134277,1013904242,2773480762,1359893119,2600822924,528734635,1541459225⟩,List.replicate 64 0,0⟩
set_option maxRecDepth 10000 in
set_option maxHeartbeats 2000000 in
theorem pw_begin:PCalls Tryz.prog 97 [] (· = .agg (pS beginS)):=by
 refine pcalls_of_pw typeTab_ok Tryz.func97 rfl (by kernel_rfl) (by simp) (by simp) (Nat.le_of_ble_eq_true rfl) ?_
 refine wk ?_
 exact ⟨_,presult1 (pres_cell rfl rfl rfl rfl rfl), .agg _ (low_pS beginS),rfl⟩
theorem pcWBytes (s:ByteArray) (hl:s.size≤1000000000):PCalls Tryz.prog 69 [pstr s] (· = pbytesO (strB s)):=
 pcalls1 (by kernel_rfl) fun Φ μ w v himm hr=>by
  obtain ⟨rfl,-⟩:=hr.val_inv
  exact (wireBytes s w hl).mono (by
  rintro e w' ⟨u,rfl,ho,hb⟩
  exact post_own himm (fun _=>rfl) ho hb)
def partsS (ks:List Int):Strm→List ByteArray→Strm
 |s,[]=>s
 |s,p :: l=>partsS ks (addS ks s (strB p)) l
def ofS (ks:List Int) (tag:Int) (l:List ByteArray):List Int:=(sumS ks (partsS ks (addS ks beginS [IntKind.u8.wrap tag]) l)).take 16
theorem addS_n (ks:List Int):∀(n:Nat) (s:Strm) (bs:List Int),bs.length=n→(addS ks s bs).n=s.n+bs.length:=by
 intro n
 induction n using Nat.strongRecOn with
 |_ n ih=>
  intro s bs hl
  by_cases h0:bs = []
  ·subst h0;rw [addS_nil];rfl
  ·have h1:bs.length≠0:=fun e=>h0 (List.eq_nil_of_length_eq_zero e)
   have h2:=Nat.mod_lt s.n (show 0 < 64 by omega)
   rw [addS_cons ks s h0,ih _ (by rw [←hl,List.length_drop];omega) _ _ rfl,turn_n,List.length_take,List.length_drop]
   omega
theorem partsS_snoc (ks:List Int):∀(l:List ByteArray) (s:Strm) (p:ByteArray),partsS ks s (l ++ [p])=addS ks (partsS ks s l) (strB p)
 | [],s,p=>rfl
 |q :: l,s,p=>by rw [List.cons_append,partsS,partsS,partsS_snoc ks l]
theorem partsS_ok (ks:List Int) (s:Strm) (hs:s.blk.length=64) (l:List ByteArray) (hl:SmallStrs l):(partsS ks s l).blk.length=64∧(partsS ks s l).n≤s.n+l.length * 1000010:=by
 induction l generalizing s with
 |nil=>exact ⟨hs,by simp [partsS]⟩
 |cons p l ih=>
  have h1:=ih (addS ks s (strB p)) (addS_len ks _ s (strB p) rfl hs) (fun x hx=>hl x (List.mem_cons_of_mem _ hx))
  have h2:=(strB_len p (hl p (List.mem_cons_self ..))).2
  have h3:=addS_n ks _ s (strB p) rfl
  refine ⟨h1.1,?_⟩
  have h4:=h1.2
  rw [partsS,List.length_cons]
  omega
theorem leb_byte (n:Nat):∀z,z < n→∀c∈leb z,0≤c∧c < 256:=by
 induction n with
 |zero=>intro z h;omega
 |succ n ih=>
  intro z hz c hc
  by_cases h:z < 128
  ·rw [leb_small z h] at hc;simp at hc;subst hc;omega
  ·rw [leb_big z (by omega)] at hc
   rcases List.mem_cons.1 hc with rfl|hc
   ·omega
   ·exact ih (z / 128) (by omega) c hc
theorem intB_byte (n:Int):∀c∈intB n,0≤c∧c < 256:=leb_byte _ _ (Nat.lt_succ_self _)
theorem strB_byte (p:ByteArray) (h:p.size≤1000000):∀c∈strB p,0≤c∧c < 256:=by
 intro c hc
 rcases List.mem_append.1 hc with h|h
 ·exact intB_byte _ c h
 ·exact bytesL_byte p c h
set_option maxRecDepth 10000 in
set_option maxHeartbeats 2000000 in
theorem pw_of (tag:Int) (l:List ByteArray) (hl:l.length≤1000000) (hs:SmallStrs l):PCalls Tryz.prog 88 [pint tag,pstrs l] (· = .agg ((ofS glob0 tag l).map pbyte)):=by
 refine pcalls_of_pw typeTab_ok Tryz.func88 rfl (by kernel_rfl) (by exact lw) (by simp [pint,pstrs,PV.ownB]) (Nat.le_of_ble_eq_true rfl) ?_
 have hb:=pw_begin
 have ha:=pw_add beginS [IntKind.u8.wrap tag] rfl (by intro c hc;simp at hc;subst hc;rw [IntKind.wrap_u8];omega) (by simp [beginS])
 have h0l:=addS_len glob0 _ beginS [IntKind.u8.wrap tag] rfl rfl
 have h0n:=addS_n glob0 _ beginS [IntKind.u8.wrap tag] rfl
 rw [show ofS glob0 tag l=(sumS glob0 (partsS glob0 (addS glob0 beginS [IntKind.u8.wrap tag]) l)).take 16 from rfl]
 obtain ⟨s0,hs0⟩:∃s0,s0=addS glob0 beginS [IntKind.u8.wrap tag]:=⟨_,rfl⟩
 rw [←hs0] at ha h0l h0n ⊢
 have h0n' : s0.n=1:=h0n
 have l0:=low_pS s0
 have hok:=fun i=>partsS_ok glob0 s0 h0l (l.take i) (fun x hx=>hs x (List.mem_of_mem_take hx))
 refine wk ?_
 refine PWops.stAll rfl rfl rfl rfl rfl rfl rfl rfl rfl (len_pS h0l) rfl (one_pS s0) (bare_pS s0) ?_
 refine wk ?_
 refine PW.loop (fun i:Nat=>(((((((bot.setb 0 (List.replicate 16 (pbyte 0))).put 4 (.ptr 0 0)).setb 1006 (pS (partsS glob0 s0 (l.take i)))).put 5 (.ptr 1006 0)).put 15 (pstrs l)).put 16 (pint l.length)).put 17 (pint i))) (fun i=>i≤l.length) (fun i=>l.length - i) 0 (by omega) ?_ ?_
 ·exact sb
 ·intro i hi
  have hoi:=hok i
  have hti:(l.take i).length=i:=by rw [List.length_take];omega
  rw [hti] at hoi
  have li:=low_pS (partsS glob0 s0 (l.take i))
  by_cases hlt:i < l.length
  ·have hsm:(l.getD i default).size≤1000000:=hs _ (by rw [List.getD_eq_getElem?_getD,List.getElem?_eq_getElem hlt];exact List.getElem_mem hlt)
   have hpl:=(strB_len (l.getD i default) hsm).2
   have hw:=pcWBytes (l.getD i default) (by omega)
   have hadd:=pw_add (partsS glob0 s0 (l.take i)) (strB (l.getD i default)) hoi.1 (strB_byte _ hsm) (by have:=hoi.2;omega)
   have hnx:partsS glob0 s0 (l.take (i+1))=addS glob0 (partsS glob0 s0 (l.take i)) (strB (l.getD i default)):=by rw [take_getD default hlt,partsS_snoc]
   have hal:=addS_len glob0 _ _ (strB (l.getD i default)) rfl hoi.1
   rw [←hnx] at hadd hal
   have li2:=low_pS (partsS glob0 s0 (l.take (i+1)))
   refine wk ?_
   refine PWops.ldAll rfl rfl rfl rfl rfl rfl rfl (len_pS hoi.1) (bare_pS _) ?_
   refine wk ?_
   refine PWops.stAll rfl rfl rfl rfl rfl rfl rfl rfl rfl (len_pS hal) (len_pS hoi.1) (one_pS _) (bare_pS _) ?_
   refine wk ?_
   refine loopP (i+1) (by omega) (by omega) ?_
   exact sb
  ·have e:i=l.length:=by omega
   subst e
   rw [List.take_length] at hoi li ⊢
   have hsum:=pw_sum (partsS glob0 s0 l) hoi.1 (by have:=hoi.2;omega)
   have hsl:(sumS glob0 (partsS glob0 s0 l)).length=32:=outW_len _ _
   clear hok ha hs0 hb h0n hi
   generalize partsS glob0 s0 l=u at *
   generalize sumS glob0 u=D at *
   refine wk ?_
   refine PWops.ldAll rfl rfl rfl rfl rfl rfl rfl (len_pS hoi.1) (bare_pS _) ?_
   refine wk ?_
   refine PWops.ldBA (row:=(D.take 16).map pbyte) rfl rfl rfl rfl rfl rfl rfl (by rw [List.length_map,hsl];decide) (by show List.map PV.bare (List.take 16 (List.drop 0 (List.map pbyte D)))=_;rw [List.drop_zero,←List.map_take,bare_map (fun _=>rfl)]) ?_
   have htl:(D.take 16).length=16:=by rw [List.length_take,hsl];rfl
   refine PWops.stAll rfl rfl rfl rfl rfl rfl rfl rfl rfl (len_map htl) rfl (one_map (fun _=>rfl) _) (bare_map (fun _=>rfl) _) ?_
   refine wk ?_
   exact ⟨_,presult1 (pres_cell rfl rfl rfl (len_map htl) (bare_map (fun _=>rfl) _)), .agg _ (low_map (fun _=>Low.val _) _),rfl⟩
structure PPut where
 sec:Int
 dat:Sec
instance:Inhabited PPut:=⟨⟨0,zeroSec⟩⟩
def putL (p:PPut):List PV:=pint p.sec :: secL p.dat
theorem putL_len (p:PPut):(putL p).length=65:=by simp [putL,secL_len]
theorem putL_one (p:PPut):(putL p).all PV.one=true:=by rw [putL,List.all_cons,secL_one];rfl
theorem putL_bare (p:PPut):(putL p).map PV.bare=putL p:=by rw [putL,List.map_cons,secL_bare];rfl
def DM.puts (D:DM):List PPut→DM
 | []=>D
 |p :: l=>DM.puts (D.write p.sec p.dat).2 l
theorem puts_snoc (D:DM) (l:List PPut) (p:PPut):D.puts (l ++ [p])=((D.puts l).write p.sec p.dat).2:=by
 induction l generalizing D with
 |nil=>rfl
 |cons q l ih=>rw [List.cons_append,DM.puts,DM.puts,ih]
def InD (n:Nat) (l:List PPut):Prop:=∀p∈l,0≤p.sec∧p.sec < n
theorem OkD.puts {n:Nat} : ∀(l:List PPut) {k:Nat} {D:DM},OkD n k D→InD n l→k+l.length≤1000000000→OkD n (k+l.length) (D.puts l)∧(D.puts l).steps=D.steps+l.length
 | [],k,D,h,_,_=>⟨h,by simp [DM.puts]⟩
 |p :: l,k,D,h,hi,hk=>by
  simp only [List.length_cons] at hk
  obtain ⟨h0,h1⟩:=hi p (List.mem_cons_self ..)
  obtain ⟨w1,w2,w3⟩:=h.write h0 h1 (by omega) p.dat
  obtain ⟨i1,i2⟩:=OkD.puts l w2 (fun q hq=>hi q (List.mem_cons_of_mem _ hq)) (by omega)
  rw [DM.puts]
  refine ⟨?_,by rw [i2,w3];simp only [List.length_cons];omega⟩
  rw [List.length_cons,show k+(l.length+1)=k+1+l.length by omega]
  exact i1
def lastP (q:Int):List PPut→Option Sec
 | []=>none
 |p :: l=>match lastP q l with
  |some s=>some s
  |none=>if p.sec=q then some p.dat else none
theorem OkD.read_puts {n:Nat} : ∀(l:List PPut) {k:Nat} {D:DM},OkD n k D→InD n l→k+l.length≤1000000000→∀{q:Int},0≤q→q < n→(D.puts l).read q=match lastP q l with
  |some s=>(s,0)
  |none=>D.read q
 | [],k,D,h,_,_,q,_,_=>rfl
 |p :: l,k,D,h,hi,hk,q,q0,q1=>by
  simp only [List.length_cons] at hk
  obtain ⟨h0,h1⟩:=hi p (List.mem_cons_self ..)
  obtain ⟨w1,w2,w3⟩:=h.write h0 h1 (by omega) p.dat
  rw [DM.puts,OkD.read_puts l w2 (fun q hq=>hi q (List.mem_cons_of_mem _ hq)) (by omega) q0 q1,lastP]
  cases lastP q l with
  |some s=>rfl
  |none=>
   simp only
   rw [h.read_write h0 h1 (by omega) p.dat q0 q1]
   by_cases e:q=p.sec
   ·rw [if_pos e,if_pos e.symm]
   ·rw [if_neg e,if_neg (fun h=>e h.symm)]
end
section
open Go.RowKit
variable {Φ0:Ent} {W:World} {M:Nat} {Φ:Imm} {μ:Nat→Option Nat} {ω:Nat→Option Who} {σ:PS} {a:Act} {w:World} {P:Program} {T:Tab}
theorem clr_does (hT:T=tabOf P) (h:RelG Φ0 W M Φ μ ω σ a w) (o:Oper) (hd:o.dst=none) {t:TypeId} {x:Operand} (hop:o.op = .call { callee:=.builtin .clear,args := #[x],argTypes := #[t] })
  {ti:TyI} (ht:T.at t=some ti) {e k by_ id off n:Nat} {zr bs:List PV} (hk:ti.kind = .slice e k by_ zr) (hx:pev σ x = .msl id off n k) (hb:σ.b id=some bs) (hle:off+n * k≤bs.length) :
  Does P Φ0 W M a w o { t:=σ.t,b:=upd σ.b id (some (splice bs off (List.replicate n zr).flatten)),m:=σ.m }:=by
 obtain ⟨hu,i,z,e1,e2,e3,e4,e5,e6,e7,e8⟩:=slice_get (tab_at hT ht) hk
 subst e8
 have hzr:=zero_rows (Φ:=Φ) (μ:=μ) (len:=n) (z:=z.cells) e5 e6 (repL_pv0 _) e7 (by intro c hc;obtain ⟨v,-,rfl⟩:=List.mem_map.1 hc;exact pv0_own v)
 have hxr:=h.ev x
 rw [hx] at hxr
 obtain ⟨ad,cap,hxv,c1,c2,c4⟩:=hxr.msl_inv
 have hlen:((List.replicate n (z.cells.toList.map pv0)).flatten).length=n * k:=by
  rw [←hzr.1.1];simp
 subst e5
 have hrun:∀w',(match (a.eval x) with | .slice (some ad) (m+1) _=>storeCells ad ((Array.range (n * z.cells.size)).map (fun i=>z.cells[i % z.cells.size]!)).toList|_=>pure ():Sem Unit).run P w = .ok () w'→(execOp a.eval o).run P w = .ok (.value (.tuple #[])) w':=by
  intro w' hst
  rw [hxv] at hst
  simp only [execOp,hop,resolve,invoke,builtin,Sem.run_bind,Sem.run_pure,Result.andThen_ok,List.map_toArray,List.map_cons,List.map_nil,Builtin.clear_,List.getElem?_toArray,List.getElem?_cons_zero,run_underlying hu,hxv]
  cases ad with
  |none=>simp only [Sem.run_pure] at hst;cases hst;simp
  |some ad=>
   cases n with
   |zero=>simp only [Sem.run_pure] at hst;cases hst;simp
   |succ n=>
    simp only at hst
    simp only [zeroValue,typeInfo,run_program,Result.andThen_ok,e1,e2,Sem.run_bind,Sem.run_pure,Builtin.zeroCells,hst]
 rcases Nat.eq_zero_or_pos n with h0|h0
 ·subst h0
  have hbb:upd σ.b id (some (splice bs off (List.replicate 0 (List.map pv0 z.cells.toList)).flatten))=σ.b:=by
   funext q
   simp only [upd_if]
   split
   ·rename_i e;subst e
    simp [splice,hb]
   ·rfl
  refine ⟨_, .tuple #[],w,hrun w ?_, .inl rfl,Φ,μ,ω,by rw [hd,hbb];exact h⟩
  rw [hxv]
  cases ad<;>simp
 ·obtain ⟨g,hg,rfl⟩:=c4 h0
  obtain ⟨w',q1,q2⟩:=h.store (P:=P) hb hzr (off:=off) (by rw [hlen];exact hle) hg
  refine ⟨_, .tuple #[],w',hrun w' ?_, .inl rfl,Φ,μ,ω,by rw [hd];exact q2⟩
  rw [hxv]
  obtain ⟨m,rfl⟩:∃m,n=m+1:=⟨n - 1,by omega⟩
  exact q1
end
section
open Go.RowKit
variable {P:Program} {T:Tab} {σ:PS} {o:Oper} {i base:Nat} {ops:Array Oper} {ok:Nat→Nat→Bool} {rest:List (Nat×Oper)} {K:PS→Prop}
theorem PWops.clrM {e k by_ id off n:Nat} {zr bs out:List PV} {t:TypeId} {x:Operand} {ti:TyI} (hT:T=tabOf P) (hg:pguard ops σ o=some true) (hok:∀j id,ok j id=true) (hd:o.dst=none) (hop:o.op = .call { callee:=.builtin .clear,args := #[x],argTypes := #[t] }) (ht:T.at t=some ti) (hk:ti.kind = .slice e k by_ zr) (hx:pev σ x = .msl id off n k) (hb:σ.b id=some bs) (hle:off+n * k≤bs.length)
  (hout:splice bs off (List.replicate n zr).flatten=out) (kn:PWops P T ops base ok rest K (σ.setb id out)):PWops P T ops base ok ((i,o) :: rest) K σ:=by
 subst hout
 refine PWops.sem (E:=⟨.tup [],[(id,splice bs off (List.replicate n zr).flatten)],none,[]⟩) hg hok ?_ (by rw [hd];exact kn)
 intro Φ0 W M a w hM hrel
 obtain ⟨Φ,μ,ω,hr⟩:=hrel
 have:=clr_does hT hr o hd hop ht hk hx hb hle
 rw [hd]
 rw [hd] at *
 exact this
theorem PWops.slcMs {d id o' n k e by_ h l:Nat} {zr:List PV} {x:Operand} {lo hi:Option Operand} {t:TypeId} {ti:TyI} (hg:pguard ops σ o=some true) (hd:o.dst=some d) (hop:o.op = .slice t x lo hi none) (hx:pev σ x = .msl id o' n k) (ht:T.at t=some ti) (hk:ti.kind = .slice e k by_ zr) (hb:σ.freeB (base+i)=true) (hh:pbound n n (hi.map (pev σ))=some h) (hlo:pbound 0 h (lo.map (pev σ))=some l)
  (kn:PWops P T ops base ok rest K (σ.put d (.msl id (o' + l * k) (h - l) k))):PWops P T ops base ok ((i,o) :: rest) K σ:=by
 refine pres_pval hg hd ?_ hb kn
 have e1:∀x:Operand,pev (σ.only (ok i)) x=pev σ x:=fun x=>pev_only ..
 have e2:∀x:Option Operand,x.map (pev (σ.only (ok i)))=x.map (pev σ):=fun x=>by cases x<;>simp [e1]
 simp [hop,presE,pvalA,pval,pev_only,e2,hx,ht,hk,pslice,hh,hlo]
end
end Go.Proofs.YtmeekbjhpidcgaaGreatDoor
