/- Out of: Un2. -/
import Derived.Test.YtmeekbjhpidcgaaGreatDoorH1
namespace Go.Proofs.YtmeekbjhpidcgaaGreatDoor
set_option linter.unusedSimpArgs false
set_option linter.unusedVariables false
set_option linter.unnecessarySimpa false
section
open Go.RowKit
def madeNC (n k:Nat):PV:=pint ((n:Int) * (k:Int))
def madeRC (n k:Nat):List PV := [pint (1+(k:Int) / 5),pint (1+(k:Int) * (1+(n:Int) % 7)),pbyte (IntKind.u8.wrap n),pbyte (IntKind.u8.wrap ((n:Int) / 256)),pbyte (IntKind.u8.wrap k),pbyte 0,pbyte 0,pbyte 0,pbyte 0,pbyte 0,pbyte 0,pbyte 0,pbyte 0,pbyte 0,pbyte 0,pbyte 0,pbyte 0,pbyte 0]
def noteA (n:Nat):Nat→PV
 |0=>.nilsl
 |k+1=>.sl (k+1) 1 ((List.range (k+1)).map (madeNC n)) (some 3)
def refsA (n:Nat):Nat→PV
 |0=>.nilsl
 |k+1=>.sl (k+1) 18 ((List.range (k+1)).flatMap (madeRC n)) (some 42)
theorem noteA_succ (n k:Nat):noteA n (k+1) = .sl (k+1) 1 ((List.range k).map (madeNC n) ++ [madeNC n k]) (some 3):=by
 rw [noteA,List.range_succ];simp
theorem refsA_succ (n k:Nat):refsA n (k+1) = .sl (k+1) 18 ((List.range k).flatMap (madeRC n) ++ madeRC n k) (some 42):=by
 rw [refsA,List.range_succ];simp [List.flatMap_append]
theorem low_madeRC (n k:Nat):∀c∈madeRC n k,Low c:=by
 intro c hc
 simp only [madeRC,List.mem_cons,List.not_mem_nil,or_false] at hc
 rcases hc with rfl|rfl|rfl|rfl|rfl|rfl|rfl|rfl|rfl|rfl|rfl|rfl|rfl|rfl|rfl|rfl|rfl|rfl<;>exact .val _
theorem low_noteA (n:Nat):∀k,Low (noteA n k)
 |0=>.nilsl
 |k+1=>.sl _ _ _ _ (low_map (fun _=>Low.val _) _)
theorem low_refsA (n:Nat):∀k,Low (refsA n k)
 |0=>.nilsl
 |k+1=>.sl _ _ _ _ fun c hc=>by
  obtain ⟨r,-,h⟩:=List.mem_flatMap.1 hc
  exact low_madeRC n r c h
def madeC (n a b:Nat):List PV := [pint 0,noteA n a,refsA n b]
theorem low_madeC (n a b:Nat):∀c∈madeC n a b,Low c:=by
 intro c hc
 simp only [madeC,List.mem_cons,List.not_mem_nil,or_false] at hc
 rcases hc with rfl|rfl|rfl
 ·exact .val _
 ·exact low_noteA n a
 ·exact low_refsA n b
def noteB (n:Nat):Nat→PV
 |0=>.nilsl
 |k+1=>.sl (k+1) 1 ((List.range (k+1)).map (madeNC n)) none
def refsB (n:Nat):Nat→PV
 |0=>.nilsl
 |k+1=>.sl (k+1) 18 ((List.range (k+1)).flatMap (madeRC n)) none
def madeB (n a b:Nat):List PV := [pint 0,noteB n a,refsB n b]
theorem low_madeB (n a b:Nat):∀c∈madeB n a b,Low c:=by
 intro c hc
 simp only [madeB,List.mem_cons,List.not_mem_nil,or_false] at hc
 rcases hc with rfl|rfl|rfl
 ·exact .val _
 ·cases a with
  |zero=>exact .nilsl
  |succ a=>exact .sl _ _ _ _ (low_map (fun _=>Low.val _) _)
 ·cases b with
  |zero=>exact .nilsl
  |succ b=>
    refine .sl _ _ _ _ fun c hc=>?_
    obtain ⟨r,-,h⟩:=List.mem_flatMap.1 hc
    exact low_madeRC n r c h
theorem weak_noteB (n k:Nat):Weak (noteB n k) (pints ((List.range k).map fun j=>((n * j:Nat):Int))):=by
 cases k with
 |zero=>exact .nil 1
 |succ k=>
  have e:pints ((List.range (k+1)).map fun j=>((n * j:Nat):Int)) = .sl (k+1) 1 ((List.range (k+1)).map (madeNC n)) none:=by
   simp [pints,madeNC,Int.natCast_mul]
  rw [e]
  exact .refl _
theorem madeRC_eq {n k:Nat} (hn:n≤65535) (hk:k < 30):madeRC n k=prefL (madeR n k):=by
 have h1:IntKind.u8.wrap (n:Int)=((n % 256:Nat):Int):=by show (n:Int) % 256=_;omega
 have h2:IntKind.u8.wrap ((n:Int) / 256)=((n / 256 % 256:Nat):Int):=by show (n:Int) / 256 % 256=_;omega
 have h3:IntKind.u8.wrap (k:Int)=(k:Int):=by show (k:Int) % 256=_;omega
 have h4:((1+k * (1+n % 7):Nat):Int)=1+(k:Int) * (1+(n:Int) % 7):=by
  rw [Int.natCast_add,Int.natCast_mul,Int.natCast_add];rfl
 unfold madeRC
 rw [h1,h2,h3,←h4]
 rfl
theorem weak_refsB {n k:Nat} (hn:n≤65535) (hk:k≤30):Weak (refsB n k) (prefs ((List.range' 0 k).map (madeR n))):=by
 cases k with
 |zero=>exact .nil 18
 |succ k=>
  have e:prefs ((List.range' 0 (k+1)).map (madeR n)) = .sl (k+1) 18 ((List.range (k+1)).flatMap (madeRC n)) none:=by
   unfold prefs
   rw [List.length_map,List.length_range',List.flatMap_map,List.range_eq_range']
   congr 1
   rw [List.flatMap_def,List.flatMap_def]
   congr 1
   refine List.map_congr_left fun j hj=>?_
   have:=List.mem_range'_1.1 hj
   exact (madeRC_eq hn (by omega)).symm
  rw [e]
  exact .refl _
theorem weak_made {n:Nat} (hn:n≤65535):Weak (.agg (madeB n (n % 4) (n % 30))) (pman (madeM 0 n)):=
 .agg (.cons (.refl _) (.cons (weak_noteB n _) (.cons (weak_refsB hn (by omega)) .nil)))
theorem low_noteB (n k:Nat):Low (.sl (k+1) 1 ((List.range k).map (madeNC n) ++ [madeNC n k]) (some 3)):=noteA_succ n k ▸ low_noteA n (k+1)
theorem low_refsB (n k:Nat):Low (.sl (k+1) 18 ((List.range k).flatMap (madeRC n) ++ madeRC n k) (some 42)):=refsA_succ n k ▸ low_refsA n (k+1)
set_option maxRecDepth 10000 in
set_option maxHeartbeats 2000000 in
theorem pw_made (n:Nat) (hn:n≤65535):PCalls Tryz.prog 53 [pint n] (· = pman (madeM 0 n)):=by
 refine PCalls.weak ?_
 refine pcalls_of_pw typeTab_ok Tryz.func53 rfl (by kernel_rfl) (by simp [low_pint,low_pints,low_pstr,low_pbool,low_pbytes,low_pstrs]) (by simp [pint,pints,pstr,pbool,pstrs,pbytes,PV.ownB]) (by rw [Tryz.ntmps53];simp) ?_
 rw [Tryz.ntmps53,Tryz.results53]
 have hlow:∀a b,∀c∈madeC n a b,Low c:=fun a b=>low_madeC n a b
 have hlowA:=low_noteA n
 have hlowB:=low_refsA n
 refine wk ?_
 refine PW.loop (fun k:Nat=>((((((bot.setb 0 [pint 0, .nilsl, .nilsl]).setb 1001 (madeC n k 0)).put 0 (pint n)).put 2 (.ptr 0 0)).put 3 (.ptr 1001 0)).put 4 (pint k))) (fun k=>k≤n % 4) (fun k=>n % 4 - k) 0 (by omega) ?_ ?_
 ·exact sb
 ·intro k hk
  have hm:0≤(n:Int) * (k:Int)∧(n:Int) * (k:Int)≤65535 * 4:=by
   have h1:n * k≤65535 * 4:=Nat.mul_le_mul hn (by omega)
   have h2:((n * k:Nat):Int)=(n:Int) * (k:Int):=Int.natCast_mul n k
   omega
  by_cases hlt:k < n % 4
  ·cases k with
   |zero=>
    refine wk ?_
    refine loopP 1 (by omega) (by omega) ?_
    have q1:=low_noteB n 0
    have q2:=hlowB 0
    try dsimp only
    unfold madeC
    rw [noteA_succ]
    exact sb
   |succ k=>
    refine wk ?_
    refine loopP (k+2) (by omega) (by omega) ?_
    have q1:=low_noteB n (k+1)
    have q2:=hlowB 0
    try dsimp only
    unfold madeC
    rw [noteA_succ n (k+1)]
    exact sb
  ·obtain rfl:k=n % 4:=by omega
   clear hm
   generalize ha:n % 4=a at *
   have ha4:(n:Int) % 4=(a:Int):=by omega
   rcases a with _|a
   ·refine wk ?_
    refine PW.loop (fun k:Nat=>((((((bot.setb 0 [pint 0, .nilsl, .nilsl]).setb 1001 (madeC n 0 k)).put 0 (pint n)).put 2 (.ptr 0 0)).put 3 (.ptr 1001 0)).put 5 (pint k))) (fun k=>k≤n % 30) (fun k=>n % 30 - k) 0 (by omega) ?_ ?_
    ·exact sb
    ·intro k hk
     have hm:0≤(k:Int) * (1+(n:Int) % 7)∧(k:Int) * (1+(n:Int) % 7)≤30 * 7:=by
      have h1:k * (1+n % 7)≤30 * 7:=Nat.mul_le_mul (by omega) (by omega)
      have h2:((k * (1+n % 7):Nat):Int)=(k:Int) * (1+(n:Int) % 7):=by
       rw [Int.natCast_mul,Int.natCast_add];rfl
      omega
     by_cases hlt:k < n % 30
     ·cases k with
      |zero=>
       refine wk ?_
       refine loopP 1 (by omega) (by omega) ?_
       have q1:=low_refsB n 0
       have q2:=hlowA 0
       try dsimp only
       unfold madeC
       rw [refsA_succ]
       exact sb
      |succ k=>
       refine wk ?_
       refine loopP (k+2) (by omega) (by omega) ?_
       have q1:=low_refsB n (k+1)
       have q2:=hlowA 0
       try dsimp only
       unfold madeC
       rw [refsA_succ n (k+1)]
       exact sb
     ·obtain rfl:k=n % 30:=by omega
      have hw:=weak_made hn
      rw [ha] at hw
      clear hm
      clear hlt hk
      generalize hb:n % 30=b at *
      have hb30:(n:Int) % 30=(b:Int):=by omega
      rcases b with _|b
      ·refine wk ?_
       exact retP (r:=.agg (madeB n 0 0)) rfl (.agg _ (low_madeB _ _ _)) hw
      ·refine wk ?_
       exact retP (r:=.agg (madeB n 0 (b+1))) rfl (.agg _ (low_madeB _ _ _)) hw
   ·refine wk ?_
    refine PW.loop (fun k:Nat=>((((((bot.setb 0 [pint 0, .nilsl, .nilsl]).setb 1001 (madeC n (a+1) k)).put 0 (pint n)).put 2 (.ptr 0 0)).put 3 (.ptr 1001 0)).put 5 (pint k))) (fun k=>k≤n % 30) (fun k=>n % 30 - k) 0 (by omega) ?_ ?_
    ·exact sb
    ·intro k hk
     have hm:0≤(k:Int) * (1+(n:Int) % 7)∧(k:Int) * (1+(n:Int) % 7)≤30 * 7:=by
      have h1:k * (1+n % 7)≤30 * 7:=Nat.mul_le_mul (by omega) (by omega)
      have h2:((k * (1+n % 7):Nat):Int)=(k:Int) * (1+(n:Int) % 7):=by
       rw [Int.natCast_mul,Int.natCast_add];rfl
      omega
     by_cases hlt:k < n % 30
     ·cases k with
      |zero=>
       refine wk ?_
       refine loopP 1 (by omega) (by omega) ?_
       have q1:=low_refsB n 0
       have q2:=hlowA (a+1)
       try dsimp only
       unfold madeC
       rw [refsA_succ]
       exact sb
      |succ k=>
       refine wk ?_
       refine loopP (k+2) (by omega) (by omega) ?_
       have q1:=low_refsB n (k+1)
       have q2:=hlowA (a+1)
       try dsimp only
       unfold madeC
       rw [refsA_succ n (k+1)]
       exact sb
     ·obtain rfl:k=n % 30:=by omega
      have hw:=weak_made hn
      rw [ha] at hw
      clear hm
      clear hlt hk
      generalize hb:n % 30=b at *
      have hb30:(n:Int) % 30=(b:Int):=by omega
      rcases b with _|b
      ·refine wk ?_
       exact retP (r:=.agg (madeB n (a+1) 0)) rfl (.agg _ (low_madeB _ _ _)) hw
      ·refine wk ?_
       exact retP (r:=.agg (madeB n (a+1) (b+1))) rfl (.agg _ (low_madeB _ _ _)) hw
end
end Go.Proofs.YtmeekbjhpidcgaaGreatDoor
