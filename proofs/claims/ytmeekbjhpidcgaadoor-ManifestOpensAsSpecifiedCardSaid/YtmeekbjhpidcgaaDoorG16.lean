/- Out of: Laid, Da, PwBs, PwWt. -/
import Derived.Test.YtmeekbjhpidcgaaDoorG14
namespace Go.Proofs.YtmeekbjhpidcgaaDoor
set_option linter.unusedSimpArgs false
set_option linter.unusedVariables false
set_option linter.unnecessarySimpa false
section
open Go.RowKit
def laidL:List (String×DataW Unit) := [("antiquary/hash.constants",Rows.laid_antiquary_hash_constants)]
theorem door_met (os:Os) (args:Array Value):laidMetH Tryd.prog laidL ((World.doorLaid Tryd.prog 2000 os).forCall (fun _ _=>0) ⟨#[],args,[]⟩).memory:=
 laidMetH_of_parts3 (fuel:=8) (laidMet_of_run' 8 (by kernel_rfl) (by kernel_rfl)) (by kernel_rfl) (by kernel_rfl)
theorem laid_glob (W:World) (h:laidMetH Tryd.prog laidL W):∀x∈globTab,∀j z,x.2.2[j]? = some z→W.cell? ⟨x.1,j,none⟩=some (.int x.2.1 z):=by
 rw [MakeChecks.laidMetH_plain _ _ _ (by kernel_rfl)] at h
 intro x hx
 simp only [globTab,List.mem_cons,List.not_mem_nil,or_false] at hx
 rcases hx with rfl
 ·exact glob_of_reads (n:="antiquary/hash.constants") (zs:=glob0) (t:=147) (e:=109) (m:=64) (by kernel_rfl) (by kernel_rfl) (by kernel_rfl) (by kernel_rfl) (by kernel_rfl) (by kernel_rfl) (Lib.laidMet.reads h (.head _))
def Sec:={l:List Int // l.length=64∧∀x∈l,0≤x∧x < 256}
def zeroSec:Sec:=⟨List.replicate 64 0,by decide⟩
instance:Inhabited Sec:=⟨zeroSec⟩
def secL (s:Sec):List PV:=s.1.map pbyte
theorem secL_len (s:Sec):(secL s).length=64:=by simp [secL,s.2.1]
theorem secL_low (s:Sec):∀c∈secL s,Low c:=by
 intro c hc
 obtain ⟨z,-,rfl⟩:=List.mem_map.1 hc
 exact .val _
theorem secL_one (s:Sec):(secL s).all PV.one=true:=one_pbyte _
theorem secL_bare (s:Sec):(secL s).map PV.bare=secL s:=by
 simp only [secL,List.map_map];rfl
structure DCell where
 s:Sec
 bad:Bool
instance:Inhabited DCell:=⟨⟨zeroSec,false⟩⟩
def dcellL (c:DCell):List PV:=secL c.s ++ [pbool c.bad]
theorem dcellL_len (c:DCell):(dcellL c).length=65:=by simp [dcellL,secL_len]
theorem dcellL_low (c:DCell):∀p∈dcellL c,Low p:=by
 intro p hp
 rcases List.mem_append.1 hp with h|h
 ·exact secL_low _ p h
 ·simp at h;subst h;exact .val _
theorem dcellL_one (s:DCell):(dcellL s).all PV.one=true:=by
 rw [dcellL,List.all_append,secL_one];rfl
theorem dcellL_bare (s:DCell):(dcellL s).map PV.bare=dcellL s:=by
 rw [dcellL,List.map_append,secL_bare];rfl
theorem flat_low {α:Type} {f:α→List PV} (h:∀x,∀p∈f x,Low p) (l:List α):∀p∈l.flatMap f,Low p:=by
 intro p hp
 obtain ⟨x,-,hx⟩:=List.mem_flatMap.1 hp
 exact h x p hx
structure DM where
 cells:List DCell
 op:List (Nat×Int×List Sec)
 clock:Nat
 steps:Int
 after:Int
 dead:Bool
def psecs (l:List Sec) (own:Option TypeId):PV:=.sl l.length 64 (l.flatMap secL) own
theorem psecs_low (l:List Sec) (own:Option TypeId):Low (psecs l own):=.sl _ _ _ _ (flat_low secL_low l)
def dE (e:Nat×Int×List Sec):Nat×PV×PV:=(e.1,pint e.2.1,psecs e.2.2 (some 71))
def dB (c m:Nat) (D:DM):List PV := [.msl c 0 D.cells.length 65, .mref m,pint D.steps,pint D.after,pbool D.dead]
def dC (D:DM):List PV:=D.cells.flatMap dcellL
def dM (D:DM):PMap:=.map (D.op.map dE) D.clock
def dG (d c m:Nat) (D:DM):List (Nat×List PV) := [(d,dB c m D),(c,dC D)]
def dMs (m:Nat) (D:DM):List (Nat×PMap) := [(m,dM D)]
theorem dC_low (D:DM):∀p∈dC D,Low p:=flat_low dcellL_low _
theorem secL_noI (s:Sec):∀p∈secL s,noI64 p=true:=by
 intro p hp
 obtain ⟨z,-,rfl⟩:=List.mem_map.1 hp
 rfl
theorem psecs_owns (l:List Sec) (own:Option TypeId):OwnsOK (psecs l own):=owns_sl (fun p hp=>by
 obtain ⟨x,-,hx⟩:=List.mem_flatMap.1 hp
 exact secL_noI x p hx)
theorem dC_owns (D:DM):∀c∈dC D,OwnsOK c:=by
 intro c hc
 obtain ⟨x,-,hx⟩:=List.mem_flatMap.1 hc
 rcases List.mem_append.1 hx with h|h
 ·obtain ⟨z,-,rfl⟩:=List.mem_map.1 h;exact owns_no rfl
 ·simp at h;subst h;exact owns_no rfl
theorem dM_owns (D:DM):∀e∈D.op.map dE,OwnsOK e.2.2:=by
 intro e he
 obtain ⟨x,-,rfl⟩:=List.mem_map.1 he
 exact psecs_owns _ _
theorem dM_low (D:DM):∀e∈D.op.map dE,Low e.2.1∧Low e.2.2:=by
 intro e he
 obtain ⟨x,-,rfl⟩:=List.mem_map.1 he
 exact ⟨.val _,psecs_low _ _⟩
def ids3 (d c m:Nat):List Nat := [d,c,m]
def disk3 (d c m i:Nat):Nat:=if i=1000001 then d else if i=1000002 then c else if i=1000003 then m else i
theorem dB_lowI {S:Nat→Prop} {c m:Nat} (hc:S c) (hm:S m) (D:DM):∀p∈dB c m D,LowI S p:=by
 intro p hp
 simp only [dB,List.mem_cons,List.not_mem_nil,or_false] at hp
 rcases hp with rfl|rfl|rfl|rfl|rfl
 ·exact .msl _ _ _ _ hc
 ·exact .mref _ hm
 ·exact .val _
 ·exact .val _
 ·exact .val _
theorem dB_ren {S:Nat→Prop} {d c m:Nat} (hc:S 1000002) (hm:S 1000003) (D:DM):RenL (disk3 d c m) S (dB 1000002 1000003 D) (dB c m D):=
 .cons (.msl 1000002 0 _ _ hc) (.cons (.mref 1000003 hm) (.cons (.low _ (.val _)) (.cons (.low _ (.val _)) (.cons (.low _ (.val _)) .nil))))
end
section
open Go.RowKit
variable {f:FuncId} {fn:Func} {c:Code}
def DCalls (f:FuncId) (args:List PV) (D:DM) (r:PV) (D' : DM):Prop:=∀d c m,(ids3 d c m).Nodup→HCalls Tryd.prog f (.ptr d 0 :: args) (dG d c m D) (dMs m D) r (dG d c m D') (dMs m D')
theorem dcalls_of_pw {args:List PV} {D D' : DM} {r:PV} (hf:Tryd.prog.funcs[f]? = some fn) (hb:fn.body=some c) (hcb:callB Tryd.prog f=true) (hlow:∀p∈args,Low p) (hno:∀p∈args,p.ownB=false) (hn:args.length+1≤fn.ntmps) (hr:Low r)
  (h:PW Tryd.prog fn.ntmps c (RetH typeTab fn.results.toList r (dG 1000001 1000002 1000003 D') (dMs 1000003 D')) (initH (.ptr 1000001 0 :: args) (dG 1000001 1000002 1000003 D) (dMs 1000003 D))):DCalls f args D r D':=by
 have h1:HCalls Tryd.prog f (.ptr 1000001 0 :: args) (dG 1000001 1000002 1000003 D) (dMs 1000003 D) r (dG 1000001 1000002 1000003 D') (dMs 1000003 D'):=by
  have r3:∀D,ResIds (dG 1000001 1000002 1000003 D) (dMs 1000003 D) = [1000001,1000002,1000003]:=fun _=>rfl
  refine hcalls_of_pw typeTab_ok hf hb hcb (fun p hp=>?_) (by simpa using hn) (by rw [r3];decide) (by rw [r3];decide) ⟨fun p hp=>?_,fun x hx=>?_,fun x hx=>?_,hr.lowI,fun x hx=>?_,fun x hx=>?_,by simp [dG],by simp [dMs]⟩ h
  ·rcases List.mem_cons.1 hp with rfl|hp
   ·rfl
   ·exact hno p hp
  ·rcases List.mem_cons.1 hp with rfl|hp
   ·exact .ptr _ _ (by rw [r3];decide)
   ·exact (hlow p hp).lowI
  ·simp only [dG,List.mem_cons,List.not_mem_nil,or_false] at hx
   rcases hx with rfl|rfl
   ·exact dB_lowI (by rw [r3];decide) (by rw [r3];decide) D
   ·exact fun p hp=>(dC_low D p hp).lowI
  ·simp only [dMs,List.mem_cons,List.not_mem_nil,or_false] at hx
   subst hx
   exact fun e he=>⟨(dM_low D e he).1.lowI,(dM_low D e he).2.lowI⟩
  ·simp only [dG,List.mem_cons,List.not_mem_nil,or_false] at hx
   rcases hx with rfl|rfl
   ·exact dB_lowI (by rw [r3];decide) (by rw [r3];decide) D'
   ·exact fun p hp=>(dC_low D' p hp).lowI
  ·simp only [dMs,List.mem_cons,List.not_mem_nil,or_false] at hx
   subst hx
   exact fun e he=>⟨(dM_low D' e he).1.lowI,(dM_low D' e he).2.lowI⟩
 intro d c m hnd
 have r3:∀D,ResIds (dG 1000001 1000002 1000003 D) (dMs 1000003 D) = [1000001,1000002,1000003]:=fun _=>rfl
 have hG:∀D,RenB (disk3 d c m) (fun i=>i ∈ [1000001,1000002,1000003]) (dG 1000001 1000002 1000003 D) (dG d c m D):=fun D=>
  .cons 1000001 _ _ _ _ (dB_ren (by decide) (by decide) D) (.cons 1000002 _ _ _ _ (.low (dC_low D)) .nil)
 have hM:∀D,RenMs (disk3 d c m) (fun i=>i ∈ [1000001,1000002,1000003]) (dMs 1000003 D) (dMs m D):=fun D=>.cons 1000003 _ _ _ _ (.low (dM_low D)) .nil
 refine h1.ren (disk3 d c m) (by simp [dG]) (by simp [dMs]) ?_ ?_ (hG D) (hM D) (.low _ hr) (hG D') (hM D')
 ·rw [r3]
  simp only [ids3,List.nodup_cons,List.mem_cons,List.not_mem_nil,or_false,not_or,List.nodup_nil,and_true,not_false_eq_true] at hnd
  obtain ⟨⟨n1,n2⟩,n3⟩:=hnd
  intro i hi j hj e
  simp only [List.mem_cons,List.not_mem_nil,or_false] at hi hj
  rcases hi with rfl|rfl|rfl<;>rcases hj with rfl|rfl|rfl<;>simp [disk3] at e ⊢ <;> first|exact absurd e n1|exact absurd e n2|exact absurd e n3|exact absurd e.symm n1|exact absurd e.symm n2|exact absurd e.symm n3
 ·exact .cons (.ptr 1000001 0 (by rw [r3];decide)) (.low hlow)
end
section
open Go.RowKit
variable {Φ0:Ent} {W:World} {M:Nat} {Φ:Imm} {μ:Nat→Option Nat} {ω:Nat→Option Who} {σ:PS} {a:Act} {w:World} {P:Program} {T:Tab}
theorem bsl_does (hT:T=tabOf P) (h:RelG Φ0 W M Φ μ ω σ a w) (o:Oper) {d id:Nat} (hlow:id < 1000000) (hid:σ.b id=none) (hmid:σ.m id=none) (hd:o.dst=some d) (hM:d < M) {t:TypeId} {len:Nat} {parts:Array (Nat×Operand)} (hop:o.op = .buildSlice t len parts)
  {ti:TyI} (ht:T.at t=some ti) {e k by_:Nat} {zr cs:List PV} (hk:ti.kind = .slice e k by_ zr) (hle:len * k≤16777216) (hcs:pfill (fun i=>some (i * k,k)) ((List.replicate len zr).flatten) (parts.toList.map fun x=>(x.1,pev σ x.2))=some cs) :
  Does P Φ0 W M a w o { t:=upd σ.t d (.msl id 0 len k),b:=upd σ.b id (some cs),m:=σ.m }:=by
 obtain ⟨hu,i,z,e1,e2,e3,e4,e5,e6,e7,e8⟩:=slice_get (tab_at hT ht) hk
 subst e8
 have hzr:=zero_rows (Φ:=Φ) (μ:=μ) (len:=len) (z:=z.cells) e5 e6 (repL_pv0 _) e7 (by intro c hc;obtain ⟨v,-,rfl⟩:=List.mem_map.1 hc;exact pv0_own v)
 obtain ⟨cur,r1,r2⟩:=fill_sound (fun i=>some (i * k,k)) _ (parts.toList.map fun (x:Nat×Operand)=>(x.1,a.eval x.2)) _ _ _ hzr (by simp) (parts_rep h parts) hcs
 have h1:=h.newBox hlow hid hmid r2.1 r2.2.1 r2.2.2 e
 have h2:=h1.put (d:=d) hM (p:=.msl id 0 len k) (v:=.slice (some ⟨w.heap.size,0,none⟩) len len) (.msl id 0 len k _ _ (fun _=>⟨w.heap.size,by simp [upd_if],rfl⟩) (Nat.le_refl _) (by
  have:len≤len * k:=Nat.le_mul_of_pos_right _ e6
  unfold maxLen;omega)) rfl
 refine ⟨_, .slice (some ⟨w.heap.size,0,none⟩) len len,w.alloc (.cells cur e),?_, .inl rfl,Φ,_,_,by rw [Array.toArray_toList] at h2;rw [hd];exact h2⟩
 have hnle:¬(len * k > 2 ^ 24):=by omega
 simp only [execOp,hop,Instr.buildSlice,Sem.run_bind,run_underlying hu,Result.andThen_ok,run_size e1,e3,hnle,if_false]
 by_cases hz0:len * k=0
 ·have hr0:((Array.range (len * k)).map (fun i=>z.cells[i % z.cells.size]!)) = #[]:=by rw [hz0];simp
  rw [hr0] at r1
  have hr1:(Array.map (fun (_:Nat)=>(default:Value)) (Array.range 0)) = #[]:=by simp
  simp [hz0,hr1,r1,newRow]
 ·simp only [hz0,if_false,Sem.run_bind,zeroValue,typeInfo,run_program,Result.andThen_ok,e1,e2,Sem.run_pure,Array.toList_map,r1]
  rfl
end
section
open Go.RowKit
variable {P:Program} {T:Tab} {σ:PS} {o:Oper} {i base:Nat} {ops:Array Oper} {ok:Nat→Nat→Bool} {rest:List (Nat×Oper)} {K:PS→Prop}
theorem PWops.bslM {d len k e by_:Nat} {zr cs:List PV} {t:TypeId} {parts:Array (Nat×Operand)} {ti:TyI} (hT:T=tabOf P) (hg:pguard ops σ o=some true) (hok:∀j id,ok j id=true) (hd:o.dst=some d) (hop:o.op = .buildSlice t len parts) (ht:T.at t=some ti) (hk:ti.kind = .slice e k by_ zr) (hb:σ.freeB (base+i)=true) (hlow:Nat.blt (base+i) 1000000=true) (hle:len * k≤16777216)
  (hcs:pfill (fun i=>some (i * k,k)) ((List.replicate len zr).flatten) (parts.toList.map fun x=>(x.1,pev σ x.2))=some cs) (kn:PWops P T ops base ok rest K ((σ.setb (base+i) cs).put d (.msl (base+i) 0 len k))):PWops P T ops base ok ((i,o) :: rest) K σ:=by
 refine PWops.sem (E:=⟨.msl (base+i) 0 len k,[(base+i,cs)],none,[]⟩) hg hok ?_ (by rw [hd];exact kn)
 intro Φ0 W M a w hM hrel
 obtain ⟨Φ,μ,ω,hr⟩:=hrel
 obtain ⟨q1,q2⟩:=PS.freeB_spec hb
 have:=bsl_does hT hr o (id:=base+i) (by simpa [Nat.blt_eq] using hlow) q1 q2 hd (hM d hd) hop ht hk hle hcs
 rw [hd]
 exact this
end
section
open Go.RowKit
theorem Weak.ep {ps qs:List PV} {off:Nat} (h:WeakL ps qs):Weak (.ep ps off) (.ep qs off):=by
 refine ⟨fun Φ μ v hv=>?_,fun h=>by simp [PV.ownB] at h⟩
 cases hv with
 |ep cs off b o us hp hr=>
  refine .ep qs off b o us (fun j hj=>hp j (by rw [h.len];exact hj)) (fun j c hj=>?_)
  obtain ⟨p,hp,hw⟩:=h.get j c hj
  exact hw.1 _ _ _ (hr j p hp)
theorem Weak.undef (p:PV):Weak p .undef:=⟨fun _ _ v _=>.undef v,fun h=>by simp [PV.ownB] at h⟩
end
section
open Go.RowKit
variable {Φ0:Ent} {W:World} {M:Nat} {Φ:Imm} {μ:Nat→Option Nat} {ω:Nat→Option Who} {σ:PS} {a:Act} {w:World} {P:Program} {T:Tab}
theorem RelG.weakT (h : RelG Φ0 W M Φ μ ω σ a w) {s : Nat} {q : PV} (hw : Weak (σ.t s) q) : RelG Φ0 W M Φ μ ω (σ.put s q) a w :=
  { h with
    tmps := fun t => by
      simp only [PS.put, upd_if]
      split
      · rename_i e; subst e; exact hw.1 _ _ _ (h.tmps t)
      · exact h.tmps t
    own := fun t n k cs E e => by
      simp only [PS.put, upd_if] at e
      split at e
      · rename_i e'; subst e'
        have := hw.2 (by rw [e]; rfl)
        exact h.own t n k cs E (by rw [← this, e])
      · exact h.own t n k cs E e }
theorem PW.weakT {c:Code} {Q:Exit→PS→Prop} {s:Nat} {p q:PV} (hs:σ.t s=p) (hw:Weak p q) (h:PW P M c Q (σ.put s q)):PW P M c Q σ:=by
 intro Φ0 W a w ⟨Φ,μ,ω,hg⟩
 exact h Φ0 W a w ⟨Φ,μ,ω,hg.weakT (by rw [hs];exact hw)⟩
end
end Go.Proofs.YtmeekbjhpidcgaaDoor
