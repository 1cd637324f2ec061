/- Out of: Hc. -/
import Derived.Test.YtmeekbjhpidcgaaDoorG22
namespace Go.Proofs.YtmeekbjhpidcgaaDoor
set_option linter.unusedSimpArgs false
set_option linter.unusedVariables false
set_option linter.unnecessarySimpa false
section
open Go.RowKit
structure Strm where
 st:H8
 blk:List Int
 n:Nat
def pS (s:Strm):List PV:=pH s.st ++ (s.blk.map pbyte ++ [pu64 s.n])
theorem low_pS (s:Strm):∀c∈pS s,Low c:=by
 intro c hc
 rcases List.mem_append.1 hc with h|h
 ·exact low_pH _ c h
 ·rcases List.mem_append.1 h with h|h
  ·exact low_map (fun _=>Low.val _) _ c h
  ·simp at h;subst h;exact .val _
theorem bare_pS (s:Strm):(pS s).map PV.bare=pS s:=by
 have:(s.blk.map pbyte).map PV.bare=s.blk.map pbyte:=bare_map (fun _=>rfl) _
 rw [pS,List.map_append,List.map_append,this];rfl
theorem one_pS (s:Strm):(pS s).all PV.one=true:=by
 have:(s.blk.map pbyte).all PV.one=true:=one_map (fun _=>rfl) _
 rw [pS,List.all_append,List.all_append,this];rfl
theorem len_pS {s:Strm} (h:s.blk.length=64):(pS s).length=73:=by simp [pS,pH,h]
def splI (l:List Int) (at_:Nat) (x:List Int):List Int:=l.take at_ ++ x ++ l.drop (at_+x.length)
def Strm.put (s:Strm) (x:List Int):Strm:=⟨s.st,splI s.blk (s.n % 64) x,s.n+x.length⟩
def Strm.full (s:Strm) (ks:List Int):Strm:=⟨cmpH ks s.st s.blk,s.blk,s.n⟩
def Strm.turn (ks:List Int) (s:Strm) (x:List Int):Strm:=if s.n % 64+x.length=64 then (s.put x).full ks else s.put x
def addS (ks:List Int) (s:Strm) (bs:List Int):Strm:=
 if h:bs = [] then s else addS ks (s.turn ks (bs.take (64 - s.n % 64))) (bs.drop (64 - s.n % 64))
termination_by bs.length
decreasing_by
 rw [List.length_drop]
 have:bs.length≠0:=fun e=>h (List.eq_nil_of_length_eq_zero e)
 have:=Nat.mod_lt s.n (show 0 < 64 by omega)
 omega
theorem addS_nil (ks:List Int) (s:Strm):addS ks s []=s:=by rw [addS];simp
theorem addS_cons (ks:List Int) (s:Strm) {bs:List Int} (h:bs ≠ []):addS ks s bs=addS ks (s.turn ks (bs.take (64 - s.n % 64))) (bs.drop (64 - s.n % 64)):=by rw [addS,dif_neg h]
theorem splI_len {l x:List Int} {a:Nat} (h:a+x.length≤l.length):(splI l a x).length=l.length:=by
 simp only [splI,List.length_append,List.length_take,List.length_drop];omega
theorem turn_blk (ks:List Int) (s:Strm) (x:List Int):(s.turn ks x).blk=splI s.blk (s.n % 64) x:=by
 unfold Strm.turn;split<;>rfl
theorem turn_n (ks:List Int) (s:Strm) (x:List Int):(s.turn ks x).n=s.n+x.length:=by
 unfold Strm.turn;split<;>rfl
theorem flat_pH (s:H8):∀c∈pH s,Flat c:=by intro c hc;simp [pH] at hc;rcases hc with rfl|rfl|rfl|rfl|rfl|rfl|rfl|rfl<;>exact .val _
theorem pS_n {s:Strm} (h:s.blk.length=64):(pS s)[72]? = some (pu64 s.n):=by
 rw [pS,List.getElem?_append_right (by simp [pH]),List.getElem?_append_right (by simp [pH,h])]
 simp [pH,h]
theorem pS_setN {s:Strm} (h:s.blk.length=64) (m:Nat):splice (pS s) (0+72) [pu64 m]=pS ⟨s.st,s.blk,m⟩:=by
 have h1:(pS s).take 72=pH s.st ++ s.blk.map pbyte:=by
  rw [pS,←List.append_assoc,List.take_left' (by simp [pH,h])]
 have h2:(pS s).drop 73 = []:=List.drop_eq_nil_of_le (by rw [len_pS h];omega)
 show (pS s).take 72 ++ [pu64 m] ++ (pS s).drop 73=_
 rw [h1,h2,List.append_nil,pS,List.append_assoc]
theorem pS_setH {s:Strm} (v:H8):splice (pS s) 0 (pH v)=pS ⟨v,s.blk,s.n⟩:=by
 show (pS s).take 0 ++ pH v ++ (pS s).drop 8=_
 rfl
theorem pS_setB {s:Strm} (h:s.blk.length=64) {a:Nat} {X:List Int} (hx:a+X.length≤64):splice (pS s) (8+a) (X.map pbyte)=pS ⟨s.st,splI s.blk a X,s.n⟩:=by
 have hp:(pH s.st).length=8:=rfl
 unfold splice
 have h1:(pS s).take (8+a)=pH s.st ++ (s.blk.take a).map pbyte:=by
  rw [pS,←hp,List.take_append,List.take_append_of_le_length (by simp;omega),List.take_of_length_le (by omega),Nat.add_sub_cancel_left,List.map_take]
 have h2:(pS s).drop (8+a+(X.map pbyte).length)=(s.blk.drop (a+X.length)).map pbyte ++ [pu64 s.n]:=by
  rw [pS,List.length_map,Nat.add_assoc,←hp,List.drop_append,List.drop_append_of_le_length (by simp;omega),List.drop_eq_nil_of_le (by omega),Nat.add_sub_cancel_left,List.nil_append,List.map_drop]
 rw [h1,h2,pS,splI]
 simp
theorem strOf_cells {M:List Int} (h:∀c∈M,0≤c∧c < 256):(strOf M).data.toList.map (fun x=>PV.val (.int .u8 (x.toNat:Int)))=M.map pbyte:=by
 have h1:=bytesL_strOf M h
 conv=>rhs;rw [←h1]
 rw [bytesL,List.map_map];rfl
theorem heqB_iff {a b:ByteArray} : (a.toList == b.toList)=true↔a=b:=by
 rw [ByteArray.toList_eq,ByteArray.toList_eq,beq_iff_eq]
 exact ⟨fun h=>ba_ext h,fun h=>h ▸ rfl⟩
theorem htoList_ne {a b:ByteArray} (h:a≠b):(a.toList == b.toList)=false:=by
 cases hh:(a.toList == b.toList) with
 |false=>rfl
 |true=>exact absurd (heqB_iff.1 hh) h
def zeroS:Strm:=⟨⟨0,0,0,0,0,0,0,0⟩,List.replicate 64 0,0⟩
theorem strOf_drop {bs:List Int} (h:∀c∈bs,0≤c∧c < 256) (k:Nat):(strOf bs).extract k (strOf bs).size=strOf (bs.drop k):=by
 apply ByteArray.ext
 apply Array.ext'
 rw [strOf_data,ByteArray.data_extract,Array.toList_extract,strOf_data,strOf_size,List.extract_eq_take_drop,List.map_drop,List.take_of_length_le (by simp)]
set_option maxRecDepth 10000 in
set_option maxHeartbeats 2000000 in
theorem pw_add (s:Strm) (bs:List Int) (hs:s.blk.length=64) (hb:∀c∈bs,0≤c∧c < 256) (hn:s.n+bs.length≤1000000000000000):PCalls Tryd.prog 63 [.agg (pS s),pstr (strOf bs)] (· = .agg (pS (addS glob0 s bs))):=by
 refine pcalls_of_pw typeTab_ok Tryd.func63 rfl (by kernel_rfl) (by intro p hp;simp at hp;rcases hp with rfl|rfl;exact .agg _ (low_pS s);exact lw) (by simp [pstr,PV.ownB]) (Nat.le_of_ble_eq_true rfl) ?_
 refine wk ?_
 refine PWops.boxA rfl rfl rfl rfl rfl (one_pS s) (bare_pS s) ?_
 refine wk ?_
 refine PW.loop (fun x:Strm×List Int=>((((bot.setb 0 (pS x.1)).put 2 (.ptr 0 0)).setb 1 (pS zeroS)).put 4 (.ptr 1 0)).put 1 (pstr (strOf x.2))) (fun x=>x.1.blk.length=64∧(∀c∈x.2,0≤c∧c < 256)∧x.1.n+x.2.length≤1000000000000000∧addS glob0 x.1 x.2=addS glob0 s bs) (fun x=>x.2.length) (s,bs) ⟨hs,hb,hn,rfl⟩ ?_ ?_
 ·dsimp only
  have l1:=low_pS s
  have l2:=low_pS zeroS
  exact sb
 ·rintro ⟨u,M⟩ ⟨hu,hM,hun,he⟩
  simp only at hu hM hun he
  simp only
  have hlt:=Nat.mod_lt u.n (show 0 < 64 by omega)
  by_cases h0:M = []
  ·have hne:(!((strOf M).toList == ByteArray.empty.toList))=false:=by subst h0;rw [show strOf []=ByteArray.empty from rfl];simp
   refine wk ?_
   refine PWops.ldAll rfl rfl rfl rfl rfl rfl rfl (len_pS hu) (bare_pS u) ?_
   refine PWops.stAll rfl rfl rfl rfl rfl rfl rfl rfl rfl (len_pS hu) (len_pS (s:=zeroS) rfl) (one_pS u) (bare_pS u) ?_
   refine wk ?_
   refine ⟨_,presult1 (pres_cell rfl rfl rfl (len_pS hu) (bare_pS u)), .agg _ (low_pS u),?_⟩
   rw [←he,h0,addS_nil]
  ·have hne:(!((strOf M).toList == ByteArray.empty.toList))=true:=by
    have h1:strOf M≠ByteArray.empty:=by
     intro h;apply h0
     have h2:(strOf M).size=0:=by rw [h];rfl
     rw [strOf_size] at h2;exact List.eq_nil_of_length_eq_zero h2
    rw [htoList_ne h1];rfl
   have hnn:(pS u)[72]? = some (pu64 u.n):=by
    rw [pS,List.getElem?_append_right (by simp [pH]),List.getElem?_append_right (by simp [pH,hu])]
    simp [pH,hu]
   refine wk ?_
   refine PWops.ldB rfl rfl rfl rfl rfl rfl rfl rfl hnn rfl ?_
   refine PWops.remU (b:=64) rfl rfl rfl rfl rfl rfl rfl rfl (by decide) ?_
   refine PWops.valE (q:=pint ((u.n % 64:Nat):Int)) rfl rfl rfl (by show PV.val (.int .i64 (IntKind.i64.wrap _))=PV.val _;try rw [wrap64_id (by omega) (by omega)]) rfl ?_
   refine wk ?_
   refine PWops.slcP (h:=64) (l:=u.n % 64) rfl rfl rfl rfl rfl rfl rfl rfl (by simp [pbound,pev,PS.put,upd,PV.bare];omega) (by decide) ?_
   refine wk ?_
   have hX:(M.take (64 - u.n % 64)).length=min M.length (64 - u.n % 64):=by rw [List.length_take];omega
   have hbl:(splI u.blk (u.n % 64) (M.take (64 - u.n % 64))).length=64:=by rw [splI_len (by rw [hX,hu];omega),hu]
   have hM0:M.length≠0:=fun e=>h0 (List.eq_nil_of_length_eq_zero e)
   refine PWops.copy (out:=pS ⟨u.st,splI u.blk (u.n % 64) (M.take (64 - u.n % 64)),u.n⟩) (n2:=M.length) (cs:=M.map pbyte) rfl rfl rfl rfl rfl (by show (some ((strOf M).size,(strOf M).data.toList.map (fun x=>PV.val (.int .u8 (x.toNat:Int)))):Option _)=_;rw [strOf_cells hM,strOf_size]) rfl rfl rfl ?_ ?_ ?_ ?_
   ·rw [len_pS hu];omega
   ·rw [List.length_map];omega
   ·rw [←pS_setB hu (by rw [hX];omega),Nat.zero_add,Nat.mul_one,Nat.mul_one,←List.map_take]
    congr 2
    exact List.take_eq_take_iff.2 (by omega)
   refine wk ?_
   refine PWops.slcS (k:=min M.length (64 - u.n % 64)) (q:=strOf (M.drop (64 - u.n % 64))) rfl rfl rfl rfl rfl rfl rfl rfl rfl (by rw [strOf_size];omega) ?_ ?_
   ·rw [strOf_drop hM]
    congr 1
    by_cases hh:M.length≤64 - u.n % 64
    ·rw [Nat.min_eq_left hh,List.drop_eq_nil_of_le (Nat.le_refl _),List.drop_eq_nil_of_le hh]
    ·rw [Nat.min_eq_right (by omega)]
   refine wk ?_
   refine PWops.ldB rfl rfl rfl rfl rfl rfl rfl rfl (pS_n hbl) rfl ?_
   refine PWops.idd ?_
   first|refine PWops.cvI rfl rfl rfl rfl (by (first|omega|(dsimp only;omega))) (by (first|omega|(dsimp only;omega))) rfl ?_|refine PWops.stepA rfl ?_|refine PWops.doneI rfl ?_|refine PWops.boolK true rfl rfl rfl rfl (by (first|rfl|assumption|(simp only [decide_eq_true_eq,decide_eq_false_iff_not,bne_iff_ne,beq_iff_eq,beq_eq_false_iff_ne,bne_eq_false_iff_eq,ne_eq];omega))) rfl ?_|refine PWops.boolK false rfl rfl rfl rfl (by (first|rfl|assumption|(simp only [decide_eq_true_eq,decide_eq_false_iff_not,bne_iff_ne,beq_iff_eq,beq_eq_false_iff_ne,bne_eq_false_iff_eq,ne_eq];omega))) rfl ?_|refine PWops.fitsK rfl rfl rfl rfl (by (first|omega|(dsimp only;omega))) (by (first|omega|(dsimp only;omega))) rfl ?_|refine PWops.remK rfl rfl rfl rfl (by (first|omega|(dsimp only;omega))) rfl ?_|refine PWops.quoK rfl rfl rfl rfl (by (first|omega|(dsimp only;omega))) rfl ?_|refine PWops.app rfl rfl rfl rfl rfl rfl rfl rfl (by (first|omega|(dsimp only;omega))) (by (first|omega|(dsimp only;omega))) (by first|rfl|exact secL_one _|exact putL_one _|exact one_pint _|exact one_pstr _|exact one_pbyte _|exact one_pattrs _) ?_|refine PWops.app0 rfl rfl rfl rfl rfl rfl rfl rfl (by (first|omega|(dsimp only;omega))) (by (first|omega|(dsimp only;omega))) (by first|rfl|exact secL_one _|exact putL_one _|exact one_pint _|exact one_pstr _|exact one_pbyte _|exact one_pattrs _) ?_|refine PWops.idx1 rfl rfl rfl rfl rfl rfl rfl rfl (by (first|omega|(dsimp only;omega))) ?_|refine PWops.idx rfl rfl rfl rfl rfl rfl rfl rfl (by (first|omega|(dsimp only;omega))) ?_|refine PWops.ld rfl rfl rfl rfl rfl rfl rfl (by assumption) rfl ?_|refine PWops.ldA rfl rfl rfl rfl rfl rfl (by (first|omega|(dsimp only;omega))) (by assumption) ?_|refine PWops.str rfl rfl rfl rfl rfl rfl rfl rfl rfl rfl rfl ?_
   first|refine PWops.cvI rfl rfl rfl rfl (by (first|omega|(dsimp only;omega))) (by (first|omega|(dsimp only;omega))) rfl ?_|refine PWops.stepA rfl ?_|refine PWops.doneI rfl ?_|refine PWops.boolK true rfl rfl rfl rfl (by (first|rfl|assumption|(simp only [decide_eq_true_eq,decide_eq_false_iff_not,bne_iff_ne,beq_iff_eq,beq_eq_false_iff_ne,bne_eq_false_iff_eq,ne_eq];omega))) rfl ?_|refine PWops.boolK false rfl rfl rfl rfl (by (first|rfl|assumption|(simp only [decide_eq_true_eq,decide_eq_false_iff_not,bne_iff_ne,beq_iff_eq,beq_eq_false_iff_ne,bne_eq_false_iff_eq,ne_eq];omega))) rfl ?_|refine PWops.fitsK rfl rfl rfl rfl (by (first|omega|(dsimp only;omega))) (by (first|omega|(dsimp only;omega))) rfl ?_|refine PWops.remK rfl rfl rfl rfl (by (first|omega|(dsimp only;omega))) rfl ?_|refine PWops.quoK rfl rfl rfl rfl (by (first|omega|(dsimp only;omega))) rfl ?_|refine PWops.app rfl rfl rfl rfl rfl rfl rfl rfl (by (first|omega|(dsimp only;omega))) (by (first|omega|(dsimp only;omega))) (by first|rfl|exact secL_one _|exact putL_one _|exact one_pint _|exact one_pstr _|exact one_pbyte _|exact one_pattrs _) ?_|refine PWops.app0 rfl rfl rfl rfl rfl rfl rfl rfl (by (first|omega|(dsimp only;omega))) (by (first|omega|(dsimp only;omega))) (by first|rfl|exact secL_one _|exact putL_one _|exact one_pint _|exact one_pstr _|exact one_pbyte _|exact one_pattrs _) ?_|refine PWops.idx1 rfl rfl rfl rfl rfl rfl rfl rfl (by (first|omega|(dsimp only;omega))) ?_|refine PWops.idx rfl rfl rfl rfl rfl rfl rfl rfl (by (first|omega|(dsimp only;omega))) ?_|refine PWops.ld rfl rfl rfl rfl rfl rfl rfl (by assumption) rfl ?_|refine PWops.ldA rfl rfl rfl rfl rfl rfl (by (first|omega|(dsimp only;omega))) (by assumption) ?_|refine PWops.str rfl rfl rfl rfl rfl rfl rfl rfl rfl rfl rfl ?_
   refine PWops.valE (q:=pu64 ((u.n+min M.length (64 - u.n % 64):Nat):Int)) rfl rfl rfl (by show PV.val (.int .u64 (IntKind.u64.wrap ((u.n:Int)+IntKind.u64.wrap _)))=PV.val _;rw [IntWalk.u64_in ((min M.length (64 - u.n % 64):Nat):Int) (by omega),IntWalk.u64_in _ (by omega)];congr 2) rfl ?_
   refine wk ?_
   refine PWops.stB (new := [pu64 ((u.n+min M.length (64 - u.n % 64):Nat):Int)]) rfl rfl rfl rfl rfl rfl rfl rfl rfl ⟨rfl,by rw [len_pS hbl];show 0+72+1≤73;omega⟩ (pS_setN hbl _) ?_
   have hdl:(M.drop (64 - u.n % 64)).length=M.length - (64 - u.n % 64):=List.length_drop
   have l2:=low_pS zeroS
   by_cases hful:u.n % 64+min M.length (64 - u.n % 64)=64
   ·have hc:=HCalls.ofP (gm := []) (given := [(0,pS ⟨u.st,splI u.blk (u.n % 64) (M.take (64 - u.n % 64)),u.n+min M.length (64 - u.n % 64)⟩)]) (args' := [.agg (pH u.st), .msl 0 (0+8+0 * 1) (64 - 0) 1]) (pw_compress u.st (splI u.blk (u.n % 64) (M.take (64 - u.n % 64))) hbl)
     (.cons (.same _) (by
      have e:pbytes (splI u.blk (u.n % 64) (M.take (64 - u.n % 64))) = .sl (64 - 0) 1 (((pS ⟨u.st,splI u.blk (u.n % 64) (M.take (64 - u.n % 64)),u.n+min M.length (64 - u.n % 64)⟩).drop (0+8+0 * 1)).take ((64 - 0) * 1)) none:=by
       rw [pbytes]
       refine sl_eq (by rw [hbl]) ?_
       show _=(((splI u.blk (u.n % 64) (M.take (64 - u.n % 64))).map pbyte ++ [_])).take 64
       rw [List.take_left' (by rw [List.length_map,hbl])]
      rw [e]
      exact .cons (.msl _ _ _ _ _ (by simp) (by rw [len_pS hbl];decide)) .nil))
     (fun x hx c hcx=>by simp at hx;subst hx;exact (low_pS _ c hcx).lowI) (by simp) (.agg _ (flat_pH _)) rfl
    refine wk ?_
    refine PWops.stB (new:=pH (cmpH glob0 u.st (splI u.blk (u.n % 64) (M.take (64 - u.n % 64))))) rfl rfl rfl rfl rfl rfl rfl rfl rfl ⟨rfl,by rw [len_pS hbl];show 0+8≤73;omega⟩ (pS_setH _) ?_
    refine wk ?_
    have ht:u.turn glob0 (M.take (64 - u.n % 64))=⟨cmpH glob0 u.st (splI u.blk (u.n % 64) (M.take (64 - u.n % 64))),splI u.blk (u.n % 64) (M.take (64 - u.n % 64)),u.n+min M.length (64 - u.n % 64)⟩:=by rw [Strm.turn,if_pos (by rw [hX];exact hful),Strm.put,Strm.full,hX]
    have l1:=low_pS ⟨cmpH glob0 u.st (splI u.blk (u.n % 64) (M.take (64 - u.n % 64))),splI u.blk (u.n % 64) (M.take (64 - u.n % 64)),u.n+min M.length (64 - u.n % 64)⟩
    refine loopP (⟨cmpH glob0 u.st (splI u.blk (u.n % 64) (M.take (64 - u.n % 64))),splI u.blk (u.n % 64) (M.take (64 - u.n % 64)),u.n+min M.length (64 - u.n % 64)⟩,M.drop (64 - u.n % 64)) ⟨hbl,fun c hcx=>hM c (List.mem_of_mem_drop hcx),by simp only [hdl];omega,?_⟩ (by simp only [hdl];omega) ?_
    ·rw [←he,addS_cons glob0 u h0,ht]
    ·dsimp only
     exact sb
   ·refine wk ?_
    have ht:u.turn glob0 (M.take (64 - u.n % 64))=⟨u.st,splI u.blk (u.n % 64) (M.take (64 - u.n % 64)),u.n+min M.length (64 - u.n % 64)⟩:=by rw [Strm.turn,if_neg (by rw [hX];exact hful),Strm.put,hX]
    have l1:=low_pS ⟨u.st,splI u.blk (u.n % 64) (M.take (64 - u.n % 64)),u.n+min M.length (64 - u.n % 64)⟩
    refine loopP (⟨u.st,splI u.blk (u.n % 64) (M.take (64 - u.n % 64)),u.n+min M.length (64 - u.n % 64)⟩,M.drop (64 - u.n % 64)) ⟨hbl,fun c hcx=>hM c (List.mem_of_mem_drop hcx),by simp only [hdl];omega,?_⟩ (by simp only [hdl];omega) ?_
    ·rw [←he,addS_cons glob0 u h0,ht]
    ·dsimp only
     exact sb
end
end Go.Proofs.YtmeekbjhpidcgaaDoor
