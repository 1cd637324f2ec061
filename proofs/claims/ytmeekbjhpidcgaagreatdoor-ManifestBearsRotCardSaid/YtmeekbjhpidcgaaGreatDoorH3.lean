/- Out of: Uo2, Up2, Uq2. -/
import Derived.Test.YtmeekbjhpidcgaaGreatDoorG13
import Derived.Test.YtmeekbjhpidcgaaGreatDoorG14
import Derived.Test.YtmeekbjhpidcgaaGreatDoorH2
namespace Go.Proofs.YtmeekbjhpidcgaaGreatDoor
set_option linter.unusedSimpArgs false
set_option linter.unusedVariables false
set_option linter.unnecessarySimpa false
section
open Go.RowKit
def rC (d t:Nat) (m:PMan):List PV := [.ptr d 0, .ptr t 0,pint m.ver,pints m.notes,prefs m.refs,pint 0, .nilsl, .nilsl]
def uG (r t d c m:Nat) (at_:Nat) (now:PMan) (D:DM):List (Nat×List PV):=(r,rC d t now) :: tG t d c m at_ now D
theorem rC_lowI {S:Nat→Prop} {d t:Nat} (hd:S d) (ht:S t) (m:PMan):∀c∈rC d t m,LowI S c:=by
 intro c hc
 simp only [rC,List.mem_cons,List.not_mem_nil,or_false] at hc
 rcases hc with rfl|rfl|rfl|rfl|rfl|rfl|rfl|rfl
 ·exact .ptr _ _ hd
 ·exact .ptr _ _ ht
 ·exact .val _
 ·exact ((low_pints _).2 trivial).lowI
 ·exact ((low_prefs _).2 trivial).lowI
 ·exact .val _
 ·exact .nilsl
 ·exact .nilsl
theorem uh_of_pw {f:FuncId} {fn:Func} {c:Code} {args:List PV} {D D' : DM} {r:PV} {at_:Nat} {now now' : PMan} (hf:Tryz.prog.funcs[f]? = some fn) (hb:fn.body=some c) (hcb:callB Tryz.prog f=true) (hlow:∀p∈args,LowI (fun i=>i ∈ [1000005,1000004,1000001,1000002,1000003]) p) (hno:∀p∈args,p.ownB=false) (hn:args.length≤fn.ntmps) (hr:LowI (fun i=>i ∈ [1000005,1000004,1000001,1000002,1000003]) r)
  (h:PW Tryz.prog fn.ntmps c (RetH typeTab fn.results.toList r (uG 1000005 1000004 1000001 1000002 1000003 at_ now' D') (dMs 1000003 D')) (initH args (uG 1000005 1000004 1000001 1000002 1000003 at_ now D) (dMs 1000003 D))):HCalls Tryz.prog f args (uG 1000005 1000004 1000001 1000002 1000003 at_ now D) (dMs 1000003 D) r (uG 1000005 1000004 1000001 1000002 1000003 at_ now' D') (dMs 1000003 D'):=by
 have r3:∀now D,ResIds (uG 1000005 1000004 1000001 1000002 1000003 at_ now D) (dMs 1000003 D) = [1000005,1000004,1000001,1000002,1000003]:=fun _ _=>rfl
 refine hcalls_of_pw typeTab_ok hf hb hcb hno hn (by rw [r3];decide) (by rw [r3];decide) ⟨by rw [r3];exact hlow,fun x hx=>?_,fun x hx=>?_,by rw [r3];exact hr,fun x hx=>?_,fun x hx=>?_,by simp [uG,tG,dG],by simp [dMs]⟩ h
 ·simp only [uG,tG,dG,List.mem_cons,List.not_mem_nil,or_false] at hx
  rcases hx with rfl|rfl|rfl|rfl
  ·exact rC_lowI (by rw [r3];decide) (by rw [r3];decide) now
  ·exact tC_lowI (by rw [r3];decide) at_ now
  ·exact dB_lowI (by rw [r3];decide) (by rw [r3];decide) D
  ·exact fun p hp=>(dC_low D p hp).lowI
 ·simp only [dMs,List.mem_cons,List.not_mem_nil,or_false] at hx
  subst hx
  exact fun e he=>⟨(dM_low D e he).1.lowI,(dM_low D e he).2.lowI⟩
 ·simp only [uG,tG,dG,List.mem_cons,List.not_mem_nil,or_false] at hx
  rcases hx with rfl|rfl|rfl|rfl
  ·exact rC_lowI (by rw [r3];decide) (by rw [r3];decide) now'
  ·exact tC_lowI (by rw [r3];decide) at_ now'
  ·exact dB_lowI (by rw [r3];decide) (by rw [r3];decide) D'
  ·exact fun p hp=>(dC_low D' p hp).lowI
 ·simp only [dMs,List.mem_cons,List.not_mem_nil,or_false] at hx
  subst hx
  exact fun e he=>⟨(dM_low D' e he).1.lowI,(dM_low D' e he).2.lowI⟩
def uIds (r t d c m:Nat):List (Nat×Nat) := [(1000005,r),(1000004,t),(1000001,d),(1000002,c),(1000003,m)]
theorem ren_rCL {ρ:Nat→Nat} {S:Nat→Prop} {d t:Nat} {now:PMan} (h:S d) (k:S t):RenL ρ S (rC d t now) (rC (ρ d) (ρ t) now):=
 .cons (.ptr _ _ h) (.cons (.ptr _ _ k) (.cons (.low _ (.val _)) (.cons (.low _ ((low_pints _).2 trivial)) (.cons (.low _ ((low_prefs _).2 trivial)) (.cons (.low _ (.val _)) (.cons (.low _ .nilsl) (.cons (.low _ .nilsl) .nil)))))))
theorem uh_at {f:FuncId} {args args' : List PV} {D D' : DM} {r r' : PV} {at_:Nat} {now now' : PMan} (h:HCalls Tryz.prog f args (uG 1000005 1000004 1000001 1000002 1000003 at_ now D) (dMs 1000003 D) r (uG 1000005 1000004 1000001 1000002 1000003 at_ now' D') (dMs 1000003 D')) (u t d c m:Nat) (hd:([u,t,d,c,m]:List Nat).Nodup)
  (ha:RenL (renN (uIds u t d c m)) (fun i=>i ∈ [1000005,1000004,1000001,1000002,1000003]) args args') (hr:Ren (renN (uIds u t d c m)) (fun i=>i ∈ [1000005,1000004,1000001,1000002,1000003]) r r'):HCalls Tryz.prog f args' (uG u t d c m at_ now D) (dMs m D) r' (uG u t d c m at_ now' D') (dMs m D'):=by
 have e:∀now D,ResIds (uG 1000005 1000004 1000001 1000002 1000003 at_ now D) (dMs 1000003 D) = [1000005,1000004,1000001,1000002,1000003]:=fun _ _=>rfl
 have hB:∀now D,RenB (renN (uIds u t d c m)) (fun i=>i ∈ [1000005,1000004,1000001,1000002,1000003]) (uG 1000005 1000004 1000001 1000002 1000003 at_ now D) (uG u t d c m at_ now D):=fun now D=>by
  refine RenB.cons _ _ _ _ _ (ren_rCL (ρ:=renN (uIds u t d c m)) (by simp) (by simp)) (RenB.cons _ _ _ _ _ (ren_tCL (ρ:=renN (uIds u t d c m)) (by simp)) (RenB.cons _ _ _ _ _ ?_ (RenB.cons _ _ _ _ _ (RenL.low (dC_low _)) RenB.nil)))
  exact .cons (.msl _ _ _ _ (by simp)) (.cons (.mref _ (by simp)) (.cons (.low _ (.val _)) (.cons (.low _ (.val _)) (.cons (.low _ (.val _)) .nil))))
 have hM:∀D,RenMs (renN (uIds u t d c m)) (fun i=>i ∈ [1000005,1000004,1000001,1000002,1000003]) (dMs 1000003 D) (dMs m D):=fun D=>RenMs.cons _ _ _ _ _ (RenM.low (dM_low _)) RenMs.nil
 exact h.at (uIds u t d c m) (by simpa [uIds] using hd) (by rw [e];simp [uIds]) (by simp [uG,tG,dG]) (by simp [dMs]) (by rw [e];exact ha) (by rw [e];exact hB _ _) (by rw [e];exact hM _) (by rw [e];exact hr) (by rw [e];exact hB _ _) (by rw [e];exact hM _)
theorem madeM_len {v:Int} {n:Nat} : (madeM v n).notes.length≤3∧(madeM v n).refs.length≤29:=by
 simp only [madeM,List.length_map,List.length_range,List.length_range']
 omega
theorem made_all {v:Int} (h0:1≤v) (h1:v≤1000) {n:Nat} (hn:n≤65535):checkM 2 3 (madeM v n)=0∧DigsOK (madeM v n)∧EncM (madeM v n)∧CloM (madeM v n)∧(slotM hfT (madeM v n)).length≤16384∧(∀c∈slotM hfT (madeM v n),0≤c∧c < 256)∧checkM 1 2 (madeM v n)=0:=by
 obtain ⟨k1,k2⟩:=madeM_ok h0 h1 hn
 have k3:checkM 2 3 (madeM v n)=0:=(checkM_iff (by decide) (by decide)).2 ((checkM_iff (by decide) (by decide)).1 k1)
 obtain ⟨e1,e2,-⟩:=okM k3 k2
 obtain ⟨s1,s2⟩:=slotM_ok k3 k2
 exact ⟨k3,k2,e1,e2,s1,s2,k1⟩
set_option maxRecDepth 10000 in
set_option maxHeartbeats 2000000 in
theorem uc_turns1 {N k:Nat} {D:DM} (h:OkD N k D) (at_:Nat) (now:PMan) (n:Nat) (hn:n≤65535) (hat:at_+1024≤N) (hN:N≤1000000000) (hk:k+1000≤100000000) (hv:0≤now.ver∧now.ver≤900) :
  HCalls Tryz.prog 23 [.ptr 1000005 0,pint n] (uG 1000005 1000004 1000001 1000002 1000003 at_ now D) (dMs 1000003 D) (pbool true) (uG 1000005 1000004 1000001 1000002 1000003 at_ (madeM (now.ver+1) n) (D.turn at_ (madeM (now.ver+1) n))) (dMs 1000003 (D.turn at_ (madeM (now.ver+1) n))):=by
 obtain ⟨c1,c2,c3,c4,c5,-,-⟩:=made_all (v:=now.ver+1) (n:=n) (by omega) (by omega) hn
 have hml:=@madeM_len (now.ver+1) n
 have k1:=pw_made n hn
 have k2:=tc_Turn (t:=1000004) (d:=1000001) (c:=1000002) (m':=1000003) (by decide) h at_ now (madeM (now.ver+1) n) hat hN hk rfl (by omega) c1 c3 c5 c4
 have k3:=pw_rCheck (madeM (now.ver+1) n) (by omega) (by omega)
 rw [c1] at k3
 clear c1 c2 c3 c4 c5
 refine uh_of_pw Tryz.func23 rfl rfl (by intro p hp;rcases List.mem_cons.1 hp with rfl|hp;exact .ptr _ _ (by simp);rcases List.mem_cons.1 hp with rfl|hp;exact .val _;cases hp) (by simp [pint,PV.ownB]) (Nat.le_of_ble_eq_true rfl) (Low.val _).lowI ?_
 have e1:pman (madeM 0 n) = .agg [pint 0,pints (madeM (now.ver+1) n).notes,prefs (madeM (now.ver+1) n).refs]:=rfl
 rw [e1] at k1
 clear e1
 have hver:(madeM (now.ver+1) n).ver=now.ver+1:=rfl
 generalize D.turn at_ (madeM (now.ver+1) n)=D' at *
 generalize madeM (now.ver+1) n=M at *
 obtain ⟨ver,notes,refs⟩:=M
 simp only at hver hml k1
 subst hver
 refine wk ?_
 exact RetH.mk rfl (Weak.refl _) ⟨⟨_,rfl,WeakL.refl _⟩,⟨_,rfl,WeakL.refl _⟩,⟨_,rfl,WeakL.refl _⟩,⟨_,rfl,WeakL.refl _⟩,trivial⟩ ⟨⟨rfl,rfl⟩,trivial⟩
theorem uc_turns {N k:Nat} {D:DM} (h:OkD N k D) (at_:Nat) (now:PMan) (n:Nat) (hn:n≤65535) (hat:at_+1024≤N) (hN:N≤1000000000) (hk:k+1000≤100000000) (hv:0≤now.ver∧now.ver≤900) (u t d c m:Nat) (hd:([u,t,d,c,m]:List Nat).Nodup) :
  HCalls Tryz.prog 23 [.ptr u 0,pint n] (uG u t d c m at_ now D) (dMs m D) (pbool true) (uG u t d c m at_ (madeM (now.ver+1) n) (D.turn at_ (madeM (now.ver+1) n))) (dMs m (D.turn at_ (madeM (now.ver+1) n))):=
 uh_at (uc_turns1 h at_ now n hn hat hN hk hv) u t d c m hd (.cons (.ptr _ _ (by simp)) (.cons (.low _ (.val _)) .nil)) (.low _ (.val _))
end
section
theorem strB_size (s:ByteArray):s.size≤(strB s).length:=by rw [strB,List.length_append,bytesL_len];omega
theorem getS_more {x r:List Int} {s:ByteArray} {u:Int} (hby:∀c∈x,0≤c∧c < 256) (hl:x.length≤1000000) (h:getS x=(s,u,0)):getS (x ++ r)=(s,u,0):=by
 obtain ⟨h1,h2,h3⟩:=getS_back x s u hby h
 have e:x ++ r=strB s ++ (x.drop u.toNat ++ r):=by rw [←h1,←List.append_assoc,List.take_append_drop]
 have hL:(strB s).length=u.toNat:=by rw [←h1,List.length_take];omega
 have:=strB_size s
 rw [e,getS_strB s _ (by omega),hL]
 congr 2
 omega
theorem readM_more {hf:ByteArray→List Int} {x r:List Int} {m:PMan} (hby:∀c∈x,0≤c∧c < 256) (hl:x.length≤1000000) (h:readM hf x=some m):readM hf (x ++ r)=some m:=by
 unfold readM at h
 by_cases h1:x.length < 16
 ·rw [if_pos h1] at h;cases h
 rw [if_neg h1] at h
 obtain ⟨s,u,e,hg⟩:∃s u e,getS (x.drop 16)=(s,u,e):=⟨_,_,_,rfl⟩
 rw [hg] at h
 simp only at h
 by_cases h2:e≠0
 ·rw [if_pos h2] at h;cases h
 rw [if_neg h2] at h
 simp only [Classical.not_not] at h2
 subst h2
 have hg2:getS ((x ++ r).drop 16)=(s,u,0):=by
  rw [List.drop_append_of_le_length (by omega)]
  exact getS_more (fun c hc=>hby c (List.mem_of_mem_drop hc)) (by rw [List.length_drop];omega) hg
 unfold readM
 rw [if_neg (by rw [List.length_append];omega),hg2]
 simp only
 rw [if_neg (by simp),List.take_append_of_le_length (by omega)]
 exact h
theorem upTo_pre {c c' : Nat→Option (List Int)} : ∀(n a:Nat),(∀i,a≤i→i < a+n→c' i=none∨c' i=c i)→∃r,upTo c a n=upTo c' a n ++ r
 |0,a,_=>⟨[],rfl⟩
 |n+1,a,h=>by
  rcases h a (Nat.le_refl _) (by omega) with h0|h0
  ·exact ⟨upTo c a (n+1),by rw [show upTo c' a (n+1) = [] by rw [upTo,h0]];rfl⟩
  ·obtain ⟨r,hr⟩:=upTo_pre n (a+1) (fun i h1 h2=>h i (by omega) (by omega))
   rw [upTo,upTo,h0]
   cases hc:c a with
   |none=>exact ⟨[],rfl⟩
   |some b=>exact ⟨r,by simp only;rw [hr,List.append_assoc]⟩
theorem upTo_byte2 {c:Nat→Option (List Int)} (h:∀i b,c i=some b→b.length=64∧∀x∈b,0≤x∧x < 256):∀(n a:Nat),(∀x∈upTo c a n,0≤x∧x < 256)∧(upTo c a n).length≤64 * n
 |0,a=>⟨by simp [upTo],by simp [upTo]⟩
 |n+1,a=>by
  obtain ⟨h1,h2⟩:=upTo_byte2 h n (a+1)
  rw [upTo]
  cases hc:c a with
  |none=>exact ⟨by simp,by simp⟩
  |some b=>
   obtain ⟨k1,k2⟩:=h a b hc
   refine ⟨fun x hx=>?_,by simp only [List.length_append];omega⟩
   rcases List.mem_append.1 hx with hx|hx
   ·exact k2 x hx
   ·exact h1 x hx
theorem readT_sub {D E:DM} {at_ s:Nat} (h:∀i:Nat,at_+s * 256≤i→i < at_+s * 256+256→secD E i=none∨secD E i=secD D i) {m:PMan} (hm:readT E at_ s=some m):readT D at_ s=some m:=by
 obtain ⟨r,hr⟩:=upTo_pre (c:=secD D) (c':=secD E) 256 (at_+s * 256) h
 obtain ⟨b1,b2⟩:=upTo_byte2 (c:=secD E) (fun i b hb=>⟨secD_len i b hb,secD_byte i b hb⟩) 256 (at_+s * 256)
 unfold readT at hm ⊢
 rw [hr]
 exact readM_more b1 (by omega) hm
theorem readT_rot_sub {n k:Nat} {D:DM} (h:OkD n k D) (hop:D.op = []) {at_ s:Nat} (hn:at_+1024≤n) (hs:s≤3) {q:Int} (q0:0≤q) (q1:q < n) {m:PMan} (hm:readT (D.rot q) at_ s=some m):readT D at_ s=some m:=
 readT_sub (fun i h1 h2=>by
  unfold secD
  rw [h.read_rot hop q0 q1 (by omega) (by omega)]
  by_cases e:(i:Int)=q
  ·rw [if_pos e];exact .inl rfl
  ·rw [if_neg e];exact .inr rfl) hm
theorem readT_ok {D:DM} {at_ s:Nat} {m:PMan} (h:readT D at_ s=some m):checkM 1 2 m=0∧DigsOK m:=by
 unfold readT readM at h
 split at h
 ·cases h
 ·split at h
  ·cases h
  ·split at h
   ·cases h
   ·exact (enc_decM (fun c hc=>bytesL_byte _ c hc) h).2
theorem OkD.flip {n k:Nat} {D:DM} (h:OkD n k D) (i b:Int):OkD n k (D.flip i b).2∧(D.flip i b).2.op=D.op:=by
 unfold DM.flip
 split
 ·split
  ·exact ⟨h,rfl⟩
  ·exact ⟨⟨h.dead,h.after,by simp only [DM.setc,List.length_set];exact h.len,h.steps,h.op,h.room⟩,rfl⟩
 ·exact ⟨h,rfl⟩
theorem best_mem:∀(l:List (Nat×PMan)) (x:PMan),l.foldl (fun x y=>newerM x y.2) x=x∨∃y∈l,l.foldl (fun x y=>newerM x y.2) x=y.2
 | [],x=>.inl rfl
 |z :: l,x=>by
  rw [List.foldl_cons]
  rcases best_mem l (newerM x z.2) with h|⟨y,hy,h⟩
  ·rw [h]
   unfold newerM
   split
   ·exact .inr ⟨z,List.mem_cons_self ..,rfl⟩
   ·exact .inl rfl
  ·exact .inr ⟨y,List.mem_cons_of_mem _ hy,h⟩
theorem checkM_len {m:PMan} {e1 e2:Int} (h1:e1≠0) (h2:e2≠0) (h:checkM e1 e2 m=0):m.notes.length≤16∧m.refs.length≤600:=((checkM_iff h1 h2).1 h).1
theorem bestT_ok (D:DM) (at_:Nat):(bestM (readT D at_)).notes.length≤16∧(bestM (readT D at_)).refs.length≤600∧DigsOK (bestM (readT D at_)):=by
 rcases best_mem (copiesM (readT D at_)) zeroM with h|⟨y,hy,h⟩
 ·unfold bestM
  rw [h]
  exact ⟨by decide,by decide,fun r hr=>by cases hr⟩
 ·unfold bestM
  rw [h]
  obtain ⟨-,k⟩:=mem_copies.1 hy
  obtain ⟨c1,c2⟩:=readT_ok k
  obtain ⟨l1,l2⟩:=checkM_len (by decide) (by decide) c1
  exact ⟨l1,l2,c2⟩
structure RunI (j:Nat) (now:PMan) (D:DM):Prop where
 ok:OkD 1100 (j * 516) D
 op:D.op = []
 ver:now.ver=j
 good:now=zeroM∨∃n,n≤65535∧0 < j∧now=madeM j n
 own:0 < j→∀s:Nat,s≤3→((s:Int)=firstI j∨(s:Int)=firstI j+1)→readT D 64 s=some now
 old:∀s:Nat,s≤3→∀m,readT D 64 s=some m→m=now∨m.ver < now.ver
 none:j=0→∀s:Nat,s≤3→readT D 64 s=none
theorem newD_readsA {n s:Nat} (h:64+s * 256 < n):readT (newD n) 64 s=none:=by
 refine readT_none (.inr ?_)
 have hr:=(newD_ok n).read (q:=((64+s * 256:Nat):Int)) (by omega) (by omega)
 unfold secD
 rw [hr]
 have hg:(newD n).get ((64+s * 256:Nat):Int) = []:=by rw [get_find];rfl
 have hc:(newD n).cell ((64+s * 256:Nat):Int)=⟨zeroSec,false⟩:=by
  unfold DM.cell newD
  simp only [List.getD_eq_getElem?_getD]
  rw [List.getElem?_replicate,if_pos (by omega)]
  rfl
 rw [hg,hc]
 rfl
theorem run_zero:RunI 0 zeroM (newD 1100) where
 ok:=newD_ok 1100
 op:=rfl
 ver:=rfl
 good:=.inl rfl
 own:=fun h=>absurd h (by omega)
 old:=fun s hs m hm=>by rw [newD_readsA (by omega)] at hm;cases hm
 none:=fun _ s hs=>newD_readsA (by omega)
theorem run_step {j:Nat} {now:PMan} {D:DM} (h:RunI j now D) (hj:j≤900) {n:Nat} (hn:n≤65535):RunI (j+1) (madeM (now.ver+1) n) (D.turn 64 (madeM (now.ver+1) n)):=by
 have hv:=h.ver
 obtain ⟨c1,c2,c3,c4,c5,c6,c7⟩:=made_all (v:=now.ver+1) (n:=n) (by omega) (by omega) hn
 obtain ⟨o1,p1,r1⟩:=turn_spec h.ok (at_:=64) (m:=madeM (now.ver+1) n) (by omega) c5 (by omega) c7 c2 c6
 have e:((j+1:Nat):Int)=now.ver+1:=by omega
 have ev:(madeM (now.ver+1) n).ver=now.ver+1:=rfl
 refine ⟨o1.mono (by omega),p1,by rw [ev,e], .inr ⟨n,hn,by omega,by rw [e]⟩,fun _ s hs hf=>?_,fun s hs m hm=>?_,fun h=>absurd h (by omega)⟩
 ·rw [e] at hf
  rw [r1 s hs,ev,if_pos hf]
 ·rw [r1 s hs] at hm
  split at hm
  ·cases hm;exact .inl rfl
  ·right
   rw [ev]
   rcases h.old s hs m hm with h1|h1
   ·rw [h1];omega
   ·omega
structure FltI (j:Nat) (D:DM) (o:Nat) (fl:Bool) (E:DM):Prop where
 ok:OkD 1100 (j * 516) E
 op:E.op = []
 sub:fl=false→∀s:Nat,s≤3→∀m,readT E 64 s=some m→readT D 64 s=some m
 keep:fl=false→readT E 64 o=readT D 64 o
theorem flt_zero {j:Nat} {now:PMan} {D:DM} (h:RunI j now D) (o:Nat):FltI j D o false D:=⟨h.ok,h.op,fun _ _ _ _ hm=>hm,fun _=>rfl⟩
theorem flt_rot {j o:Nat} {D E:DM} {fl:Bool} (h:FltI j D o fl E) (ho:o≤3) {q:Int} (q0:0≤q) (q1:q < 1100) (hq:q < 64+o * 256∨(64:Int)+o * 256+256≤q):FltI j D o fl (E.rot q):=by
 obtain ⟨r1,r2,-⟩:=h.ok.rot q
 refine ⟨r1,r2.trans h.op,fun hf s hs m hm=>h.sub hf s hs m (readT_rot_sub h.ok h.op (by omega) hs q0 q1 hm),fun hf=>?_⟩
 rw [readT_rot_ne (at_:=64) h.ok h.op (by omega) ho q0 q1 hq]
 exact h.keep hf
theorem flt_flip {j o:Nat} {D E:DM} {fl:Bool} (h:FltI j D o fl E) (q b:Int):FltI j D o true (E.flip q b).2:=by
 obtain ⟨r1,r2⟩:=h.ok.flip q b
 exact ⟨r1,r2.trans h.op,fun h=>(by cases h),fun h=>(by cases h)⟩
theorem flt_best {j o:Nat} {now:PMan} {D E:DM} (hr:RunI j now D) (h:FltI j D o false E) (ho:o≤3) (hof:0 < j→(o:Int)=firstI j∨(o:Int)=firstI j+1):bestM (readT E.crash0 64)=now:=by
 have hc:∀s:Nat,s≤3→readT E.crash0 64 s=readT E 64 s:=fun s hs=>readT_crash0 h.ok h.op (by omega) hs
 by_cases hj:j=0
 ·rcases hr.good with h1|⟨n,-,h2,-⟩
  ·rw [h1]
   refine best_zero fun k hk=>?_
   rw [hc k (by omega)]
   cases hm:readT E 64 k with
   |none=>rfl
   |some m=>
    have:=h.sub rfl k (by omega) m hm
    rw [hr.none hj k (by omega)] at this
    cases this
  ·omega
 ·have hv:=hr.ver
  refine best_is (by omega) (s:=o) (by omega) ?_ (fun k m hk hm=>?_)
  ·rw [hc o ho,h.keep rfl]
   exact hr.own (by omega) o ho (hof (by omega))
  ·rw [hc k (by omega)] at hm
   exact hr.old k (by omega) m (h.sub rfl k (by omega) m hm)
theorem flt_spoilt {j o:Nat} {now:PMan} {D E:DM} {fl:Bool} (hr:RunI j now D) (hj:0 < j) (h:FltI j D o fl E) (ho:o≤3) (hof:(o:Int)=firstI j∨(o:Int)=firstI j+1) {n:Nat} {a b:Int} (hst:spP (copiesM (readT E.crash0 64)) now.ver (firstI now.ver) (copiesM (readT E.crash0 64)).length=(n,a,b)) :
  n≤2∧([a,b].take n).length=n∧(∀s ∈ [a,b].take n,0≤s∧s≤3)∧(fl=false→n≤1):=by
 have hle:=spP_le (copiesM (readT E.crash0 64)) now.ver (firstI now.ver) (copiesM (readT E.crash0 64)).length
 rw [hst] at hle
 have hv:=hr.ver
 have hf:0≤firstI now.ver∧firstI now.ver+1≤3:=by unfold firstI;omega
 have hlen:([a,b].take n).length=n:=by rw [List.length_take];simp only [List.length_cons,List.length_nil] at *; omega
 refine ⟨hle,hlen,fun s hs=>?_,fun hfl=>?_⟩
 ·have:=(spoilt_mem hst).1 hs
  omega
 ·subst hfl
  by_cases hn:n=2
  ·exfalso
   have hc:readT E.crash0 64 o=some now:=by
    rw [readT_crash0 h.ok h.op (by omega) ho,h.keep rfl]
    exact hr.own hj o ho hof
   have hmem:∀k,k ∈ [a,b].take n→k≠(o:Int):=fun k hk=>((spoilt_mem hst).1 hk).2 o now (by omega) hc rfl
   have hnd:([a,b].take n).Nodup:=by
    rw [spoilt_list hst]
    refine List.Pairwise.filter _ (show List.Nodup _ from ?_)
    simp only [List.nodup_cons,List.mem_singleton,List.not_mem_nil,not_false_eq_true,List.nodup_nil,and_true]
    omega
   subst hn
   have h1:=(spoilt_mem hst (k:=a)).1 (by simp)
   have h2:=(spoilt_mem hst (k:=b)).1 (by simp)
   have h3:=hmem a (by simp)
   have h4:=hmem b (by simp)
   have h5:a≠b:=by
    intro e
    simp [e] at hnd
   rw [hv] at h1 h2
   omega
  ·omega
theorem flt_mended {j o:Nat} {now:PMan} {D E:DM} {fl:Bool} (hr:RunI j now D) (hj:0 < j) (hj2:j≤900) (h:FltI j D o fl E) (ho:o≤3) (hof:(o:Int)=firstI j∨(o:Int)=firstI j+1) {n:Nat} {a b:Int} (hst:spP (copiesM (readT E.crash0 64)) now.ver (firstI now.ver) (copiesM (readT E.crash0 64)).length=(n,a,b)) :
  ∃F,F=E.crash0.mend 64 ([a,b].take n) now∧OkD 1100 516 F∧F.op = []∧∃a' b',spP (copiesM (readT F 64)) now.ver (firstI now.ver) (copiesM (readT F 64)).length=(0,a',b'):=by
 obtain ⟨s1,s2,s3,-⟩:=flt_spoilt hr hj h ho hof hst
 have hv:=hr.ver
 obtain ⟨k,hk,-,hnow⟩:∃k,k≤65535∧0 < j∧now=madeM j k:=by
  rcases hr.good with h1|h1
  ·rw [h1] at hv
   have:(zeroM).ver=0:=rfl
   omega
  ·exact h1
 obtain ⟨c1,c2,c3,c4,c5,c6,c7⟩:=made_all (v:=(j:Int)) (n:=k) (by omega) (by omega) hk
 rw [←hnow] at c1 c2 c3 c4 c5 c6 c7
 obtain ⟨o1,p1,r1⟩:=mend_spec (crash0_ok h.ok) rfl (at_:=64) (m:=now) (l := [a,b].take n) s3 (by omega) (by omega) c5 (by omega) c7 c2 c6
 refine ⟨_,rfl,o1.mono (by omega),p1,?_⟩
 generalize E.crash0.mend 64 ([a,b].take n) now=F at *
 obtain ⟨n',a',b',hst'⟩:∃n a b,spP (copiesM (readT F 64)) now.ver (firstI now.ver) (copiesM (readT F 64)).length=(n,a,b):=⟨_,_,_,rfl⟩
 refine ⟨a',b',?_⟩
 rw [hst']
 have hle:=spP_le (copiesM (readT F 64)) now.ver (firstI now.ver) (copiesM (readT F 64)).length
 rw [hst'] at hle
 have hf:0≤firstI now.ver∧firstI now.ver+1≤3:=by unfold firstI;omega
 have h0 : [a',b'].take n' = []:=by
  rw [List.eq_nil_iff_forall_not_mem]
  intro x hx
  obtain ⟨x1,x2⟩:=(spoilt_mem hst').1 hx
  have hx3:((x.toNat:Nat):Int)=x:=by omega
  by_cases hm:x ∈ [a,b].take n
  ·refine x2 x.toNat now (by omega) ?_ rfl hx3.symm
   rw [r1 x.toNat (by omega),if_pos (by rw [hx3];exact hm)]
  ·have hm2:=hm
   rw [spoilt_mem hst] at hm2
   simp only [not_and,Classical.not_forall] at hm2
   obtain ⟨i,m,i4,im,iv,ie⟩:=hm2 x1
   refine x2 i m i4 ?_ iv (Classical.not_not.1 ie)
   have hie:x=(i:Int):=Classical.not_not.1 ie
   rw [r1 i (by omega),if_neg (by rw [←hie];exact hm)]
   exact im
 have hlen:=congrArg List.length h0
 rw [List.length_take] at hlen
 simp only [List.length_cons,List.length_nil] at hlen hle
 rw [show n' = 0 by omega]
end
end Go.Proofs.YtmeekbjhpidcgaaGreatDoor
