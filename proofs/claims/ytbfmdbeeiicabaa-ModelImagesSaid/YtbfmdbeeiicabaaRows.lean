/-
  No cell of these rows narrows 'for every input' (looked for: loops, veiled, ifaces, maps, wideKeys, modest, calm, conditions, laid).
  DERIVED. THE GIVEN ROWS OF THIS SEAT. 9 by the template 'for every input the law returns true; each argument reads behind the call as it read before'; 0 by the template 'total and deterministic' (their statements: YtbfmdbeeiicabaaTotals.lean).
  GIVEN WITH THE SEED: the statements are not yours to turn. If you find one false, say at which input.
  Laid BY PROGRAM, IN A SANDBOX (cutbox-rows.mjs): the forced cells as the released guide's own fill.sh prints them over the translation bdbca089cf8aaa71… (all of the seat's roots in one cut). By AI agents, Wed Nov 11 2026. No macro, syntax, notation, axiom, sorry.
-/
import Derived.Test.YtbfmdbeeiicabaaChecked
import GoSem.Claim
import GoSem.ClaimJoined
import GoSem.ClaimMapViews
import Derived.JoinedTies
import Derived.KernelRfl
namespace Go.Proofs.Ytbfmdbeeiicabaa
/- THE CELL 'sum', in the pinned program and in every row, IS THE sha256 OF THE DUMP (.gsa) THAT YtbfmdbeeiicabaaProg.lean LOADS. Nothing in Lean hashes anything: it is a label: what it is worth is what the hold of that sum in a sandbox is worth. -/
noncomputable def Try.pinned : Pinned := { name := "ytbfmdbeeiicabaa", sum := "bdbca089cf8aaa71cc6814179533e936f6adf510855a7ee24ebb45e7162ac5c2", checked := Try.checked }
namespace Rows
def none {H : Type} : Left H := { results := [], args := [] }

/-- 'ballasttop.TopHeap': WHATEVER THE INPUT: true; the input reads as it did. -/
def topHeapSpec : ChangeSpec := { name := "topHeap", fn := fun _ => fun
  | [d1, d2, d3] => { results := [.lit (.bool true)], args := [d1, d2, d3] }
  | _ => none }
def topHeapRow : OpenClaim := { program := "ytbfmdbeeiicabaa", sum := "bdbca089cf8aaa71cc6814179533e936f6adf510855a7ee24ebb45e7162ac5c2", func := "ballast/ballasttop.TopHeap", spec := "topHeap", apart := false }
def TopHeapSaid : Prop := topHeapRow.holds Try.pinned (OpenSpec.ofChange topHeapSpec)

/-- ITS FALSE NEIGHBOUR: 'it returns false'. Refute it at one input. -/
def topHeapWrong : ChangeSpec := { name := "topHeap", fn := fun _ => fun
  | [d1, d2, d3] => { results := [.lit (.bool false)], args := [d1, d2, d3] }
  | _ => none }
def TopHeapWrongFalsely : Prop := topHeapRow.holds Try.pinned (OpenSpec.ofChange topHeapWrong)

/-- 'ballastlaw19.LayoutReasons': WHATEVER THE INPUT: true; the input reads as it did. -/
def layoutReasonsSpec : ChangeSpec := { name := "layoutReasons", fn := fun _ => fun
  | [d] => { results := [.lit (.bool true)], args := [d] }
  | _ => none }
def layoutReasonsRow : OpenClaim := { program := "ytbfmdbeeiicabaa", sum := "bdbca089cf8aaa71cc6814179533e936f6adf510855a7ee24ebb45e7162ac5c2", func := "ballast/ballastlaw19.LayoutReasons", spec := "layoutReasons", unfollowed := true, recurses := true, apart := false }
def LayoutReasonsSaid : Prop := layoutReasonsRow.holds Try.pinned (OpenSpec.ofChange layoutReasonsSpec)

/-- ITS FALSE NEIGHBOUR: 'it returns false'. Refute it at one input. -/
def layoutReasonsWrong : ChangeSpec := { name := "layoutReasons", fn := fun _ => fun
  | [d] => { results := [.lit (.bool false)], args := [d] }
  | _ => none }
def LayoutReasonsWrongFalsely : Prop := layoutReasonsRow.holds Try.pinned (OpenSpec.ofChange layoutReasonsWrong)

/-- 'ballastlaw19.LayoutNames': WHATEVER THE INPUT: true; the input reads as it did. -/
def layoutNamesSpec : ChangeSpec := { name := "layoutNames", fn := fun _ => fun
  | [] => { results := [.lit (.bool true)], args := [] }
  | _ => none }
def layoutNamesRow : OpenClaim := { program := "ytbfmdbeeiicabaa", sum := "bdbca089cf8aaa71cc6814179533e936f6adf510855a7ee24ebb45e7162ac5c2", func := "ballast/ballastlaw19.LayoutNames", spec := "layoutNames", unfollowed := true, recurses := true, apart := false }
def LayoutNamesSaid : Prop := layoutNamesRow.holds Try.pinned (OpenSpec.ofChange layoutNamesSpec)

/-- ITS FALSE NEIGHBOUR: 'it returns false'. Refute it at one input. -/
def layoutNamesWrong : ChangeSpec := { name := "layoutNames", fn := fun _ => fun
  | [] => { results := [.lit (.bool false)], args := [] }
  | _ => none }
def LayoutNamesWrongFalsely : Prop := layoutNamesRow.holds Try.pinned (OpenSpec.ofChange layoutNamesWrong)

/-- 'ballastlaw19.LayoutHas': WHATEVER THE INPUT: true; the input reads as it did. -/
def layoutHasSpec : ChangeSpec := { name := "layoutHas", fn := fun _ => fun
  | [d] => { results := [.lit (.bool true)], args := [d] }
  | _ => none }
def layoutHasRow : OpenClaim := { program := "ytbfmdbeeiicabaa", sum := "bdbca089cf8aaa71cc6814179533e936f6adf510855a7ee24ebb45e7162ac5c2", func := "ballast/ballastlaw19.LayoutHas", spec := "layoutHas", unfollowed := true, recurses := true, apart := false }
def LayoutHasSaid : Prop := layoutHasRow.holds Try.pinned (OpenSpec.ofChange layoutHasSpec)

/-- ITS FALSE NEIGHBOUR: 'it returns false'. Refute it at one input. -/
def layoutHasWrong : ChangeSpec := { name := "layoutHas", fn := fun _ => fun
  | [d] => { results := [.lit (.bool false)], args := [d] }
  | _ => none }
def LayoutHasWrongFalsely : Prop := layoutHasRow.holds Try.pinned (OpenSpec.ofChange layoutHasWrong)

/-- 'ballastlaw19.LayoutFree': WHATEVER THE INPUT: true; the input reads as it did. -/
def layoutFreeSpec : ChangeSpec := { name := "layoutFree", fn := fun _ => fun
  | [d1, d2, d3] => { results := [.lit (.bool true)], args := [d1, d2, d3] }
  | _ => none }
def layoutFreeRow : OpenClaim := { program := "ytbfmdbeeiicabaa", sum := "bdbca089cf8aaa71cc6814179533e936f6adf510855a7ee24ebb45e7162ac5c2", func := "ballast/ballastlaw19.LayoutFree", spec := "layoutFree", unfollowed := true, recurses := true, apart := false }
def LayoutFreeSaid : Prop := layoutFreeRow.holds Try.pinned (OpenSpec.ofChange layoutFreeSpec)

/-- ITS FALSE NEIGHBOUR: 'it returns false'. Refute it at one input. -/
def layoutFreeWrong : ChangeSpec := { name := "layoutFree", fn := fun _ => fun
  | [d1, d2, d3] => { results := [.lit (.bool false)], args := [d1, d2, d3] }
  | _ => none }
def LayoutFreeWrongFalsely : Prop := layoutFreeRow.holds Try.pinned (OpenSpec.ofChange layoutFreeWrong)

/-- 'ballastlaw19.LayoutFloats': WHATEVER THE INPUT: true; the input reads as it did. -/
def layoutFloatsSpec : ChangeSpec := { name := "layoutFloats", fn := fun _ => fun
  | [d] => { results := [.lit (.bool true)], args := [d] }
  | _ => none }
def layoutFloatsRow : OpenClaim := { program := "ytbfmdbeeiicabaa", sum := "bdbca089cf8aaa71cc6814179533e936f6adf510855a7ee24ebb45e7162ac5c2", func := "ballast/ballastlaw19.LayoutFloats", spec := "layoutFloats", unfollowed := true, recurses := true, apart := false }
def LayoutFloatsSaid : Prop := layoutFloatsRow.holds Try.pinned (OpenSpec.ofChange layoutFloatsSpec)

/-- ITS FALSE NEIGHBOUR: 'it returns false'. Refute it at one input. -/
def layoutFloatsWrong : ChangeSpec := { name := "layoutFloats", fn := fun _ => fun
  | [d] => { results := [.lit (.bool false)], args := [d] }
  | _ => none }
def LayoutFloatsWrongFalsely : Prop := layoutFloatsRow.holds Try.pinned (OpenSpec.ofChange layoutFloatsWrong)

/-- 'ballastlaw36.FormatEmpty': WHATEVER THE INPUT: true; the input reads as it did. -/
def formatEmptySpec : ChangeSpec := { name := "formatEmpty", fn := fun _ => fun
  | [d] => { results := [.lit (.bool true)], args := [d] }
  | _ => none }
def formatEmptyRow : OpenClaim := { program := "ytbfmdbeeiicabaa", sum := "bdbca089cf8aaa71cc6814179533e936f6adf510855a7ee24ebb45e7162ac5c2", func := "ballast/ballastlaw36.FormatEmpty", spec := "formatEmpty", unfollowed := true, recurses := true, apart := false }
def FormatEmptySaid : Prop := formatEmptyRow.holds Try.pinned (OpenSpec.ofChange formatEmptySpec)

/-- ITS FALSE NEIGHBOUR: 'it returns false'. Refute it at one input. -/
def formatEmptyWrong : ChangeSpec := { name := "formatEmpty", fn := fun _ => fun
  | [d] => { results := [.lit (.bool false)], args := [d] }
  | _ => none }
def FormatEmptyWrongFalsely : Prop := formatEmptyRow.holds Try.pinned (OpenSpec.ofChange formatEmptyWrong)

/-- 'ballastlaw20.ModelOf': WHATEVER THE INPUT: true; the input reads as it did. -/
def modelOfSpec : ChangeSpec := { name := "modelOf", fn := fun _ => fun
  | [d] => { results := [.lit (.bool true)], args := [d] }
  | _ => none }
def modelOfRow : OpenClaim := { program := "ytbfmdbeeiicabaa", sum := "bdbca089cf8aaa71cc6814179533e936f6adf510855a7ee24ebb45e7162ac5c2", func := "ballast/ballastlaw20.ModelOf", spec := "modelOf", unfollowed := true, recurses := true, apart := false }
def ModelOfSaid : Prop := modelOfRow.holds Try.pinned (OpenSpec.ofChange modelOfSpec)

/-- ITS FALSE NEIGHBOUR: 'it returns false'. Refute it at one input. -/
def modelOfWrong : ChangeSpec := { name := "modelOf", fn := fun _ => fun
  | [d] => { results := [.lit (.bool false)], args := [d] }
  | _ => none }
def ModelOfWrongFalsely : Prop := modelOfRow.holds Try.pinned (OpenSpec.ofChange modelOfWrong)

/-- 'ballastlaw20.ModelImages': WHATEVER THE INPUT: true; the input reads as it did. -/
def modelImagesSpec : ChangeSpec := { name := "modelImages", fn := fun _ => fun
  | [d] => { results := [.lit (.bool true)], args := [d] }
  | _ => none }
def modelImagesRow : OpenClaim := { program := "ytbfmdbeeiicabaa", sum := "bdbca089cf8aaa71cc6814179533e936f6adf510855a7ee24ebb45e7162ac5c2", func := "ballast/ballastlaw20.ModelImages", spec := "modelImages", unfollowed := true, recurses := true, apart := false }
def ModelImagesSaid : Prop := modelImagesRow.holds Try.pinned (OpenSpec.ofChange modelImagesSpec)

/-- ITS FALSE NEIGHBOUR: 'it returns false'. Refute it at one input. -/
def modelImagesWrong : ChangeSpec := { name := "modelImages", fn := fun _ => fun
  | [d] => { results := [.lit (.bool false)], args := [d] }
  | _ => none }
def ModelImagesWrongFalsely : Prop := modelImagesRow.holds Try.pinned (OpenSpec.ofChange modelImagesWrong)

/- THE SECOND FORM. 'bulk': how many values and letters a reading holds, each counted each time it is reached (what is shared counts as often as it is met; a slice's spare places count too). A statement '..UptoSaid' is the law's where the arguments, and the package variables that the reading takes, are together of bulk at most 1048576: NARROWER than '..Said'. Prove '..Said' where nothing that the law and all that it calls make is longer than what came in: it says more and counts as full. Else prove '..UptoSaid'. A law counts once. -/
mutual
def uptoBulk {H : Type} : DataW H → Nat
  | .lit (.string bytes) => bytes.length + 1
  | .lit _ => 1
  | .nil => 1
  | .ptr d => uptoBulk d + 1
  | .slice elems spare => uptoBulkAll elems + uptoBulkAll spare + 1
  | .agg parts => uptoBulkAll parts + 1
  | .iface _ d => uptoBulk d + 1
  | .map entries => uptoBulkEntries entries + 1
  | .held _ => 1
def uptoBulkAll {H : Type} : List (DataW H) → Nat
  | [] => 0
  | d :: r => uptoBulk d + uptoBulkAll r
def uptoBulkEntries {H : Type} : List (Lit × DataW H) → Nat
  | [] => 0
  | x :: r => uptoBulkEntry x + uptoBulkEntries r
def uptoBulkEntry {H : Type} : Lit × DataW H → Nat
  | (.string bytes, d) => bytes.length + uptoBulk d + 1
  | (_, d) => uptoBulk d + 1
 end
def uptoSmall : (H : Type) → List (DataW H) → Bool := fun _ ds => decide (uptoBulkAll ds ≤ 1048576)
def OpenSpec.upto (s : _root_.Go.ChangeSpec) : _root_.Go.OpenSpec := { _root_.Go.OpenSpec.ofChange s with cond := some uptoSmall }

/-- 'ballasttop.TopHeap', WHERE WHAT IT READS IS OF BULK AT MOST 1048576: true; the input reads as it did. -/
def topHeapUptoRow : OpenClaim := { program := "ytbfmdbeeiicabaa", sum := "bdbca089cf8aaa71cc6814179533e936f6adf510855a7ee24ebb45e7162ac5c2", func := "ballast/ballasttop.TopHeap", spec := "topHeap", apart := false, narrowed := true }
def TopHeapUptoSaid : Prop := topHeapUptoRow.holds Try.pinned (OpenSpec.upto topHeapSpec)

/-- 'ballastlaw19.LayoutReasons', WHERE WHAT IT READS IS OF BULK AT MOST 1048576: true; the input reads as it did. -/
def layoutReasonsUptoRow : OpenClaim := { program := "ytbfmdbeeiicabaa", sum := "bdbca089cf8aaa71cc6814179533e936f6adf510855a7ee24ebb45e7162ac5c2", func := "ballast/ballastlaw19.LayoutReasons", spec := "layoutReasons", unfollowed := true, recurses := true, apart := false, narrowed := true }
def LayoutReasonsUptoSaid : Prop := layoutReasonsUptoRow.holds Try.pinned (OpenSpec.upto layoutReasonsSpec)

/-- 'ballastlaw19.LayoutNames', WHERE WHAT IT READS IS OF BULK AT MOST 1048576: true; the input reads as it did. -/
def layoutNamesUptoRow : OpenClaim := { program := "ytbfmdbeeiicabaa", sum := "bdbca089cf8aaa71cc6814179533e936f6adf510855a7ee24ebb45e7162ac5c2", func := "ballast/ballastlaw19.LayoutNames", spec := "layoutNames", unfollowed := true, recurses := true, apart := false, narrowed := true }
def LayoutNamesUptoSaid : Prop := layoutNamesUptoRow.holds Try.pinned (OpenSpec.upto layoutNamesSpec)

/-- 'ballastlaw19.LayoutHas', WHERE WHAT IT READS IS OF BULK AT MOST 1048576: true; the input reads as it did. -/
def layoutHasUptoRow : OpenClaim := { program := "ytbfmdbeeiicabaa", sum := "bdbca089cf8aaa71cc6814179533e936f6adf510855a7ee24ebb45e7162ac5c2", func := "ballast/ballastlaw19.LayoutHas", spec := "layoutHas", unfollowed := true, recurses := true, apart := false, narrowed := true }
def LayoutHasUptoSaid : Prop := layoutHasUptoRow.holds Try.pinned (OpenSpec.upto layoutHasSpec)

/-- 'ballastlaw19.LayoutFree', WHERE WHAT IT READS IS OF BULK AT MOST 1048576: true; the input reads as it did. -/
def layoutFreeUptoRow : OpenClaim := { program := "ytbfmdbeeiicabaa", sum := "bdbca089cf8aaa71cc6814179533e936f6adf510855a7ee24ebb45e7162ac5c2", func := "ballast/ballastlaw19.LayoutFree", spec := "layoutFree", unfollowed := true, recurses := true, apart := false, narrowed := true }
def LayoutFreeUptoSaid : Prop := layoutFreeUptoRow.holds Try.pinned (OpenSpec.upto layoutFreeSpec)

/-- 'ballastlaw19.LayoutFloats', WHERE WHAT IT READS IS OF BULK AT MOST 1048576: true; the input reads as it did. -/
def layoutFloatsUptoRow : OpenClaim := { program := "ytbfmdbeeiicabaa", sum := "bdbca089cf8aaa71cc6814179533e936f6adf510855a7ee24ebb45e7162ac5c2", func := "ballast/ballastlaw19.LayoutFloats", spec := "layoutFloats", unfollowed := true, recurses := true, apart := false, narrowed := true }
def LayoutFloatsUptoSaid : Prop := layoutFloatsUptoRow.holds Try.pinned (OpenSpec.upto layoutFloatsSpec)

/-- 'ballastlaw36.FormatEmpty', WHERE WHAT IT READS IS OF BULK AT MOST 1048576: true; the input reads as it did. -/
def formatEmptyUptoRow : OpenClaim := { program := "ytbfmdbeeiicabaa", sum := "bdbca089cf8aaa71cc6814179533e936f6adf510855a7ee24ebb45e7162ac5c2", func := "ballast/ballastlaw36.FormatEmpty", spec := "formatEmpty", unfollowed := true, recurses := true, apart := false, narrowed := true }
def FormatEmptyUptoSaid : Prop := formatEmptyUptoRow.holds Try.pinned (OpenSpec.upto formatEmptySpec)

/-- 'ballastlaw20.ModelOf', WHERE WHAT IT READS IS OF BULK AT MOST 1048576: true; the input reads as it did. -/
def modelOfUptoRow : OpenClaim := { program := "ytbfmdbeeiicabaa", sum := "bdbca089cf8aaa71cc6814179533e936f6adf510855a7ee24ebb45e7162ac5c2", func := "ballast/ballastlaw20.ModelOf", spec := "modelOf", unfollowed := true, recurses := true, apart := false, narrowed := true }
def ModelOfUptoSaid : Prop := modelOfUptoRow.holds Try.pinned (OpenSpec.upto modelOfSpec)

/-- 'ballastlaw20.ModelImages', WHERE WHAT IT READS IS OF BULK AT MOST 1048576: true; the input reads as it did. -/
def modelImagesUptoRow : OpenClaim := { program := "ytbfmdbeeiicabaa", sum := "bdbca089cf8aaa71cc6814179533e936f6adf510855a7ee24ebb45e7162ac5c2", func := "ballast/ballastlaw20.ModelImages", spec := "modelImages", unfollowed := true, recurses := true, apart := false, narrowed := true }
def ModelImagesUptoSaid : Prop := modelImagesUptoRow.holds Try.pinned (OpenSpec.upto modelImagesSpec)

end Rows
end Go.Proofs.Ytbfmdbeeiicabaa
