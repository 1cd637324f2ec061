/-
  No cell of these rows narrows 'for every input' (looked for: loops, veiled, ifaces, maps, wideKeys, modest, calm, conditions, laid).
  DERIVED. THE GIVEN ROWS OF THIS SEAT. 4 by the template 'for every input the law returns true; each argument reads behind the call as it read before'; 0 by the template 'total and deterministic' (their statements: YtnjopfjmepbpoaaTotals.lean).
  GIVEN WITH THE SEED: the statements are not yours to turn. If you find one false, say at which input.
  Laid BY PROGRAM, IN A SANDBOX (cutbox-rows.mjs): the forced cells as the released guide's own fill.sh prints them over the translation 80640f1473b3c414… (all of the seat's roots in one cut). By AI agents, Wed Nov 11 2026. No macro, syntax, notation, axiom, sorry.
-/
import Derived.Test.YtnjopfjmepbpoaaChecked
import GoSem.Claim
import GoSem.ClaimJoined
import GoSem.ClaimMapViews
import Derived.JoinedTies
import Derived.KernelRfl
namespace Go.Proofs.Ytnjopfjmepbpoaa
/- THE CELL 'sum', in the pinned program and in every row, IS THE sha256 OF THE DUMP (.gsa) THAT YtnjopfjmepbpoaaProg.lean LOADS. Nothing in Lean hashes anything: it is a label: what it is worth is what the hold of that sum in a sandbox is worth. -/
noncomputable def Try.pinned : Pinned := { name := "ytnjopfjmepbpoaa", sum := "80640f1473b3c414642438081e516081f6e0b3cd508aef8988ff8d428b4d72dc", checked := Try.checked }
namespace Rows
def none {H : Type} : Left H := { results := [], args := [] }

/-- 'antiquarylaw13.AttrFitsAsSpecified': WHATEVER THE INPUT: true; the input reads as it did. -/
def attrFitsAsSpecifiedSpec : ChangeSpec := { name := "attrFitsAsSpecified", fn := fun _ => fun
  | [d1, d2, d3] => { results := [.lit (.bool true)], args := [d1, d2, d3] }
  | _ => none }
def attrFitsAsSpecifiedRow : OpenClaim := { program := "ytnjopfjmepbpoaa", sum := "80640f1473b3c414642438081e516081f6e0b3cd508aef8988ff8d428b4d72dc", func := "antiquary/antiquarylaw13.AttrFitsAsSpecified", spec := "attrFitsAsSpecified", unfollowed := true, recurses := true, apart := false }
def AttrFitsAsSpecifiedSaid : Prop := attrFitsAsSpecifiedRow.holds Try.pinned (OpenSpec.ofChange attrFitsAsSpecifiedSpec)

/-- ITS FALSE NEIGHBOUR: 'it returns false'. Refute it at one input. -/
def attrFitsAsSpecifiedWrong : ChangeSpec := { name := "attrFitsAsSpecified", fn := fun _ => fun
  | [d1, d2, d3] => { results := [.lit (.bool false)], args := [d1, d2, d3] }
  | _ => none }
def AttrFitsAsSpecifiedWrongFalsely : Prop := attrFitsAsSpecifiedRow.holds Try.pinned (OpenSpec.ofChange attrFitsAsSpecifiedWrong)

/-- 'antiquarylaw13.AttrReadsBack': WHATEVER THE INPUT: true; the input reads as it did. -/
def attrReadsBackSpec : ChangeSpec := { name := "attrReadsBack", fn := fun _ => fun
  | [d1, d2, d3] => { results := [.lit (.bool true)], args := [d1, d2, d3] }
  | _ => none }
def attrReadsBackRow : OpenClaim := { program := "ytnjopfjmepbpoaa", sum := "80640f1473b3c414642438081e516081f6e0b3cd508aef8988ff8d428b4d72dc", func := "antiquary/antiquarylaw13.AttrReadsBack", spec := "attrReadsBack", unfollowed := true, recurses := true, apart := false }
def AttrReadsBackSaid : Prop := attrReadsBackRow.holds Try.pinned (OpenSpec.ofChange attrReadsBackSpec)

/-- ITS FALSE NEIGHBOUR: 'it returns false'. Refute it at one input. -/
def attrReadsBackWrong : ChangeSpec := { name := "attrReadsBack", fn := fun _ => fun
  | [d1, d2, d3] => { results := [.lit (.bool false)], args := [d1, d2, d3] }
  | _ => none }
def AttrReadsBackWrongFalsely : Prop := attrReadsBackRow.holds Try.pinned (OpenSpec.ofChange attrReadsBackWrong)

/-- 'antiquarylaw13.AttrPartsFit': WHATEVER THE INPUT: true; the input reads as it did. -/
def attrPartsFitSpec : ChangeSpec := { name := "attrPartsFit", fn := fun _ => fun
  | [d1, d2, d3] => { results := [.lit (.bool true)], args := [d1, d2, d3] }
  | _ => none }
def attrPartsFitRow : OpenClaim := { program := "ytnjopfjmepbpoaa", sum := "80640f1473b3c414642438081e516081f6e0b3cd508aef8988ff8d428b4d72dc", func := "antiquary/antiquarylaw13.AttrPartsFit", spec := "attrPartsFit", unfollowed := true, recurses := true, apart := false }
def AttrPartsFitSaid : Prop := attrPartsFitRow.holds Try.pinned (OpenSpec.ofChange attrPartsFitSpec)

/-- ITS FALSE NEIGHBOUR: 'it returns false'. Refute it at one input. -/
def attrPartsFitWrong : ChangeSpec := { name := "attrPartsFit", fn := fun _ => fun
  | [d1, d2, d3] => { results := [.lit (.bool false)], args := [d1, d2, d3] }
  | _ => none }
def AttrPartsFitWrongFalsely : Prop := attrPartsFitRow.holds Try.pinned (OpenSpec.ofChange attrPartsFitWrong)

/-- 'antiquarylaw13.AttrValuesAreInRange': WHATEVER THE INPUT: true; the input reads as it did. -/
def attrValuesAreInRangeSpec : ChangeSpec := { name := "attrValuesAreInRange", fn := fun _ => fun
  | [d1, d2, d3, d4] => { results := [.lit (.bool true)], args := [d1, d2, d3, d4] }
  | _ => none }
def attrValuesAreInRangeRow : OpenClaim := { program := "ytnjopfjmepbpoaa", sum := "80640f1473b3c414642438081e516081f6e0b3cd508aef8988ff8d428b4d72dc", func := "antiquary/antiquarylaw13.AttrValuesAreInRange", spec := "attrValuesAreInRange", unfollowed := true, recurses := true, apart := false }
def AttrValuesAreInRangeSaid : Prop := attrValuesAreInRangeRow.holds Try.pinned (OpenSpec.ofChange attrValuesAreInRangeSpec)

/-- ITS FALSE NEIGHBOUR: 'it returns false'. Refute it at one input. -/
def attrValuesAreInRangeWrong : ChangeSpec := { name := "attrValuesAreInRange", fn := fun _ => fun
  | [d1, d2, d3, d4] => { results := [.lit (.bool false)], args := [d1, d2, d3, d4] }
  | _ => none }
def AttrValuesAreInRangeWrongFalsely : Prop := attrValuesAreInRangeRow.holds Try.pinned (OpenSpec.ofChange attrValuesAreInRangeWrong)

/- THE SECOND FORM. 'bulk': how many values and letters a reading holds, each counted each time it is reached (what is shared counts as often as it is met; a slice's spare places count too). A statement '..UptoSaid' is the law's where the arguments, and the package variables that the reading takes, are together of bulk at most 1048576: NARROWER than '..Said'. Prove '..Said' where nothing that the law and all that it calls make is longer than what came in: it says more and counts as full. Else prove '..UptoSaid'. A law counts once. -/
mutual
def uptoBulk {H : Type} : DataW H → Nat
  | .lit (.string bytes) => bytes.length + 1
  | .lit _ => 1
  | .nil => 1
  | .ptr d => uptoBulk d + 1
  | .slice elems spare => uptoBulkAll elems + uptoBulkAll spare + 1
  | .agg parts => uptoBulkAll parts + 1
  | .iface _ d => uptoBulk d + 1
  | .map entries => uptoBulkEntries entries + 1
  | .held _ => 1
def uptoBulkAll {H : Type} : List (DataW H) → Nat
  | [] => 0
  | d :: r => uptoBulk d + uptoBulkAll r
def uptoBulkEntries {H : Type} : List (Lit × DataW H) → Nat
  | [] => 0
  | x :: r => uptoBulkEntry x + uptoBulkEntries r
def uptoBulkEntry {H : Type} : Lit × DataW H → Nat
  | (.string bytes, d) => bytes.length + uptoBulk d + 1
  | (_, d) => uptoBulk d + 1
 end
def uptoSmall : (H : Type) → List (DataW H) → Bool := fun _ ds => decide (uptoBulkAll ds ≤ 1048576)
def OpenSpec.upto (s : _root_.Go.ChangeSpec) : _root_.Go.OpenSpec := { _root_.Go.OpenSpec.ofChange s with cond := some uptoSmall }

/-- 'antiquarylaw13.AttrFitsAsSpecified', WHERE WHAT IT READS IS OF BULK AT MOST 1048576: true; the input reads as it did. -/
def attrFitsAsSpecifiedUptoRow : OpenClaim := { program := "ytnjopfjmepbpoaa", sum := "80640f1473b3c414642438081e516081f6e0b3cd508aef8988ff8d428b4d72dc", func := "antiquary/antiquarylaw13.AttrFitsAsSpecified", spec := "attrFitsAsSpecified", unfollowed := true, recurses := true, apart := false, narrowed := true }
def AttrFitsAsSpecifiedUptoSaid : Prop := attrFitsAsSpecifiedUptoRow.holds Try.pinned (OpenSpec.upto attrFitsAsSpecifiedSpec)

/-- 'antiquarylaw13.AttrReadsBack', WHERE WHAT IT READS IS OF BULK AT MOST 1048576: true; the input reads as it did. -/
def attrReadsBackUptoRow : OpenClaim := { program := "ytnjopfjmepbpoaa", sum := "80640f1473b3c414642438081e516081f6e0b3cd508aef8988ff8d428b4d72dc", func := "antiquary/antiquarylaw13.AttrReadsBack", spec := "attrReadsBack", unfollowed := true, recurses := true, apart := false, narrowed := true }
def AttrReadsBackUptoSaid : Prop := attrReadsBackUptoRow.holds Try.pinned (OpenSpec.upto attrReadsBackSpec)

/-- 'antiquarylaw13.AttrPartsFit', WHERE WHAT IT READS IS OF BULK AT MOST 1048576: true; the input reads as it did. -/
def attrPartsFitUptoRow : OpenClaim := { program := "ytnjopfjmepbpoaa", sum := "80640f1473b3c414642438081e516081f6e0b3cd508aef8988ff8d428b4d72dc", func := "antiquary/antiquarylaw13.AttrPartsFit", spec := "attrPartsFit", unfollowed := true, recurses := true, apart := false, narrowed := true }
def AttrPartsFitUptoSaid : Prop := attrPartsFitUptoRow.holds Try.pinned (OpenSpec.upto attrPartsFitSpec)

/-- 'antiquarylaw13.AttrValuesAreInRange', WHERE WHAT IT READS IS OF BULK AT MOST 1048576: true; the input reads as it did. -/
def attrValuesAreInRangeUptoRow : OpenClaim := { program := "ytnjopfjmepbpoaa", sum := "80640f1473b3c414642438081e516081f6e0b3cd508aef8988ff8d428b4d72dc", func := "antiquary/antiquarylaw13.AttrValuesAreInRange", spec := "attrValuesAreInRange", unfollowed := true, recurses := true, apart := false, narrowed := true }
def AttrValuesAreInRangeUptoSaid : Prop := attrValuesAreInRangeUptoRow.holds Try.pinned (OpenSpec.upto attrValuesAreInRangeSpec)

end Rows
end Go.Proofs.Ytnjopfjmepbpoaa
