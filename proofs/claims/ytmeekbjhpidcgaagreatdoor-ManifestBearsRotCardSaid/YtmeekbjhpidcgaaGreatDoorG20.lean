/- Out of: StrA. -/
import Derived.Test.YtmeekbjhpidcgaaGreatDoorG7
import Derived.Test.YtmeekbjhpidcgaaGreatDoorG15
namespace Go.Proofs.YtmeekbjhpidcgaaGreatDoor
set_option linter.unusedSimpArgs false
set_option linter.unusedVariables false
set_option linter.unnecessarySimpa false
section
open Go.RowKit
set_option maxRecDepth 100000 in
theorem refBytes (s:ByteArray) (w:World) (hs:s.size≤1000000000):Calls Tryz.prog 78 #[.string s] w (MadeBytes w (strB s)):=by
 have hl0:=intB_len s.size (by omega) (by omega)
 go_enter Tryz.func78,Tryz.ntmps78
 go_wp2_with (first|(at_builtin;refine wp_appendStr (.tmp 5) (.tmp 6) 26 9 5 elemByte rfl rfl Tryz.underlying26 Tryz.underlying9 w.heap.size _ _ s rfl ho1 rfl (by rw [List.length_map];omega) hb1.size ?_;intro v' w' hown' hb')|(go_at_call 77;refine (refInt _ _ (by omega) (by omega)).mono ?_;rintro e w1 ⟨v1,rfl,ho1,hb1⟩))
 go_ret
 exact ⟨_,rfl,by rw [strB,List.map_append,←strCells_eq];exact hown',hb1.trans hb'⟩
set_option maxRecDepth 100000 in
set_option maxHeartbeats 1000000 in
theorem refStrings (v:Value) (zs:List ByteArray) (w:World) (hv:Rd w v (zs.map Value.string)) (hf:SmallStrs zs) (hl:zs.length≤1000000):Calls Tryz.prog 43 #[v] w (MadeBytes w (strsB zs)):=by
 obtain ⟨a,cap,b,off,rfl,hcap,hm,ha,hc⟩:=StrsOpen hv
 have HF:=Hid.mk hf
 have hl0:=intB_len zs.length (by omega) (by omega)
 clear hv
 go_enter Tryz.func43,Tryz.ntmps43
 go_wp2_with (go_at_call 77;refine (refInt _ _ (by omega) (by omega)).mono ?_;rintro e w1 ⟨v1,rfl,ho1,hb1⟩)
 go_loopw [3,4] (fun o i wr=>∃k:Nat,k≤zs.length∧i = .int .i64 k∧Own w.heap.size 5 wr o ((intB zs.length ++ ((zs.take k).map strB).flatten).map (Value.int .u8))∧Below w.heap.size w wr) (fun _ i _=>zs.length - (intOf i).toNat)
 case atStart=>exact ⟨0,by omega,rfl,by simpa using ho1,hb1⟩
 case round=>
  obtain ⟨k,hk,rfl,hown,hb⟩:=hrel
  have HB:=Hid.mk hb
  clear hb
  have hb2:=HB.out.size
  by_cases hlt:k < zs.length
  ·obtain ⟨y,hy⟩:=ints_get zs k hlt
   have c1:=below_cell HB.out (hc.out k y hy)
   have y1:=HF.out y (List.mem_of_getElem? hy)
   have hl1:=strB_len y y1
   have hl2:=strs_len (zs.take k) (fun z hz=>HF.out z (List.mem_of_mem_take hz))
   have hl3:(zs.take k).length≤zs.length:=by rw [List.length_take];omega
   obtain rfl:=ha (by omega)
   have T:=Hid.mk (strs_take zs k y hy)
   clear ha hy
   go_wp2_with (first|(at_builtin;refine wp_append (.tmp 14) (.tmp 19) 26 5 1 _ elemByte rfl rfl Tryz.underlying26 w.heap.size _ _ _ _ rfl (hown.kept hb3) rfl ho3.rd (by simp only [List.length_map];omega) (oneCells _ _) (by simp only [List.length_map,List.length_append,maxLen];omega) (by simp only [List.length_map,List.length_append];omega) (by have:=hb3.size;omega) ?_;intro v' w' hown' hb')|(go_at_call 78;refine (refBytes _ _ (by omega)).mono ?_;rintro e w3 ⟨v3,rfl,ho3,hb3⟩))
   go_roundw
   case rel=>exact ⟨k+1,by omega,by go_num,by rw [T.out,←List.append_assoc,List.map_append];exact hown',(HB.out.trans (hb3.mono hb2)).trans hb'⟩
   case measure=>simp [intOf];omega
  ·have e:zs.take k=zs:=List.take_of_length_le (by omega)
   rw [e] at hown
   go_wp2
   go_ret
   exact ⟨_,rfl,hown,HB.out⟩
end
end Go.Proofs.YtmeekbjhpidcgaaGreatDoor
