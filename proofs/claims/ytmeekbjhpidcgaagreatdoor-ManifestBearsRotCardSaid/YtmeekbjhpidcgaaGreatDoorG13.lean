/- Out of: Rb. -/
import Derived.Test.YtmeekbjhpidcgaaGreatDoorG9
namespace Go.Proofs.YtmeekbjhpidcgaaGreatDoor
set_option linter.unusedSimpArgs false
set_option linter.unusedVariables false
set_option linter.unnecessarySimpa false
section
theorem enc_decM {bs:List Int} (hby:∀c∈bs,0≤c∧c < 256) {m:PMan} (h:decM bs=some m):encM m=bs∧checkM 1 2 m=0∧DigsOK m:=by
 unfold decM at h
 obtain ⟨a,u,e,h1⟩:∃a u e,getInts bs=(a,u,e):=⟨_,_,_,rfl⟩
 rw [h1] at h
 simp only at h
 split at h
 ·cases h
 ·rename_i g1
  simp only [not_or,Classical.not_not] at g1
  obtain ⟨rfl,g1⟩:=g1
  obtain ⟨t1,t2,t3⟩:=getInts_take bs a u hby h1
  have hby2:∀k,∀c∈bs.drop k,0≤c∧c < 256:=fun k c hc=>hby c (List.mem_of_mem_drop hc)
  obtain ⟨b,v,e,h2⟩:∃b v e,getInts (bs.drop u.toNat)=(b,v,e):=⟨_,_,_,rfl⟩
  rw [h2] at h
  simp only at h
  split at h
  ·cases h
  ·rename_i g2
   simp only [Classical.not_not] at g2
   subst g2
   obtain ⟨t4,t5,t6⟩:=getInts_take _ b v (hby2 _) h2
   obtain ⟨d,w,e,h3⟩:∃d w e,getStrs (bs.drop (u.toNat+v.toNat))=(d,w,e):=⟨_,_,_,rfl⟩
   rw [h3] at h
   simp only at h
   split at h
   ·cases h
   ·rename_i g3
    simp only [not_or,Classical.not_not] at g3
    obtain ⟨rfl,g4,g5⟩:=g3
    obtain ⟨t7,t8,t9⟩:=getStrs_take _ d w (hby2 _) h3
    split at h
    ·cases h
    ·rename_i g6
     split at h
     ·rename_i g7
      simp only [Option.some.injEq] at h
      obtain ⟨b1,b2,b3⟩:=refsOf_back d b g5
      rw [h] at g7
      refine ⟨?_,g7,?_⟩
      ·subst h
       unfold encM
       simp only
       rw [b1,b2,show a.headD 0 :: a.tail=a by cases a with|nil=>exact absurd rfl g1|cons x y=>rfl,←t1,←t4,←t7]
       rw [List.length_drop] at t9
       have t10:List.take w.toNat (bs.drop (u.toNat+v.toNat))=bs.drop (u.toNat+v.toNat):=List.take_of_length_le (by rw [List.length_drop];omega)
       rw [t10,←List.drop_drop,List.take_append_drop,List.take_append_drop]
      ·subst h
       intro r hr
       simp only at hr
       have hm:strOf r.dig∈digsM (refsOf b d):=List.mem_map.2 ⟨r,hr,rfl⟩
       have hs:∀(x:List Int) (y:List ByteArray),∀r∈refsOf x y,∃s∈y,r.dig=bytesL s:=by
        intro x y
        induction y generalizing x with
        |nil=>intro r hr;cases x with
         |nil=>simp [refsOf] at hr
         |cons p q=>cases q<;>simp [refsOf] at hr
        |cons s y ih=>
         intro r hr
         match x,hr with
         | [],hr=>simp [refsOf] at hr
         | [p],hr=>simp [refsOf] at hr
         |p :: q :: x,hr=>
          simp only [refsOf,List.mem_cons] at hr
          rcases hr with rfl|hr
          ·exact ⟨s,by simp,rfl⟩
          ·obtain ⟨s2,h1,h2⟩:=ih x r hr
           exact ⟨s2,by simp [h1],h2⟩
       obtain ⟨s,hs1,hs2⟩:=hs b d r hr
       rw [hs2,bytesL_len]
       refine ⟨?_,bytesL_byte s⟩
       rcases Nat.lt_trichotomy s.size 16 with hl|hl|hl
       ·exact absurd (List.any_eq_true.2 ⟨s,hs1,by simp;omega⟩) g6
       ·exact hl
       ·exact absurd (List.any_eq_true.2 ⟨s,hs1,by simp;omega⟩) g6
     ·cases h
end
end Go.Proofs.YtmeekbjhpidcgaaGreatDoor
