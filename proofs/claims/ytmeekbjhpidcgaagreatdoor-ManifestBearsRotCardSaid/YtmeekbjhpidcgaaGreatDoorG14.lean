/- Out of: Rc. -/
import Derived.Test.YtmeekbjhpidcgaaGreatDoorG9
namespace Go.Proofs.YtmeekbjhpidcgaaGreatDoor
set_option linter.unusedSimpArgs false
set_option linter.unusedVariables false
set_option linter.unnecessarySimpa false
section
def inM (l:List PRef) (r:PRef):Bool:=decide (hasR l r.kind r.id=some r)
def woM (a b:List PRef):List PRef:=a.filter fun r => !inM b r
theorem OneKey.sub {l m:List PRef} (h:OneKey l) (hs:∀x∈m,x∈l):OneKey m:=fun x hx y hy=>h x (hs x hx) y (hs y hy)
theorem inM_iff {l:List PRef} (h:OneKey l) (r:PRef):inM l r=true↔r∈l:=by
 unfold inM hasR
 rw [decide_eq_true_eq]
 refine ⟨fun h1=>List.mem_of_find?_eq_some h1,fun h1=>?_⟩
 cases hf:l.find? (fun x=>decide (x.kind=r.kind) && decide (x.id=r.id)) with
 |none=>
  rw [List.find?_eq_none] at hf
  exact absurd (by simp) (hf r h1)
 |some x=>
  have h2:=List.find?_some hf
  simp only [Bool.and_eq_true,decide_eq_true_eq] at h2
  rw [h x (List.mem_of_find?_eq_some hf) r h1 h2.1 h2.2]
theorem mem_wo {a b:List PRef} (hb:OneKey b) (r:PRef):r∈woM a b↔r∈a∧r∉b:=by
 unfold woM
 rw [List.mem_filter,Bool.not_eq_true',←Bool.not_eq_true,inM_iff hb]
theorem wo_nil {a b:List PRef} (hb:OneKey b) (h:∀r∈a,r∈b):woM a b = []:=by
 rw [List.eq_nil_iff_forall_not_mem]
 intro r hr
 obtain ⟨h1,h2⟩:=(mem_wo hb r).1 hr
 exact h2 (h r h1)
theorem filter_both (p:PRef→Bool):∀l:List PRef,(l.filter p).length+(l.filter fun r => !p r).length=l.length
 | []=>rfl
 |r :: l=>by
  have ih:=filter_both p l
  cases h:p r<;>simp [List.filter_cons,h]<;>omega
theorem changes_law {a b:List PRef} (ha:risesM a=true) (hb:risesM b=true) :
  (woM a (woM a b)).length+(woM b a).length=b.length∧woM (woM a (woM a b)) b = []∧woM (woM b a) b = []:=by
 obtain ⟨a1,a2⟩:=rises_one a ha
 obtain ⟨b1,b2⟩:=rises_one b hb
 have g1:OneKey (woM a b):=a1.sub fun x hx=>((mem_wo b1 x).1 hx).1
 have k1:∀r,r∈woM a (woM a b)↔r∈a∧r∈b:=fun r=>by
  rw [mem_wo g1,mem_wo b1]
  exact ⟨fun h=>⟨h.1,Classical.byContradiction fun n=>h.2 ⟨h.1,n⟩⟩,fun h=>⟨h.1,fun n=>n.2 h.2⟩⟩
 refine ⟨?_,wo_nil b1 fun r hr=>((k1 r).1 hr).2,wo_nil b1 fun r hr=>((mem_wo a1 r).1 hr).1⟩
 have e:(woM a (woM a b)).length=(b.filter fun r=>inM a r).length:=by
  refine List.Perm.length_eq ((List.perm_ext_iff_of_nodup (a2.filter _) (b2.filter _)).2 fun r=>?_)
  have:=k1 r
  unfold woM at this
  unfold woM
  rw [this,List.mem_filter,inM_iff a1]
  exact And.comm
 rw [e]
 unfold woM
 exact filter_both (fun r=>inM a r) b
end
end Go.Proofs.YtmeekbjhpidcgaaGreatDoor
