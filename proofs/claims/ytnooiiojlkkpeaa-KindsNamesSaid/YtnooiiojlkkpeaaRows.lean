/-
  No cell of these rows narrows 'for every input' (looked for: loops, veiled, ifaces, maps, wideKeys, modest, calm, conditions, laid).
  DERIVED. THE GIVEN ROWS OF THIS SEAT. 7 by the template 'for every input the law returns true; each argument reads behind the call as it read before'; 0 by the template 'total and deterministic' (their statements: YtnooiiojlkkpeaaTotals.lean).
  GIVEN WITH THE SEED: the statements are not yours to turn. If you find one false, say at which input.
  Laid BY PROGRAM, IN A SANDBOX (cutbox-rows.mjs): the forced cells as the released guide's own fill.sh prints them over the translation ac809330e2bb0efc… (all of the seat's roots in one cut). By AI agents, Wed Nov 11 2026. No macro, syntax, notation, axiom, sorry.
-/
import Derived.Test.YtnooiiojlkkpeaaChecked
import GoSem.Claim
import GoSem.ClaimJoined
import GoSem.ClaimMapViews
import Derived.JoinedTies
import Derived.KernelRfl
namespace Go.Proofs.Ytnooiiojlkkpeaa
/- THE CELL 'sum', in the pinned program and in every row, IS THE sha256 OF THE DUMP (.gsa) THAT YtnooiiojlkkpeaaProg.lean LOADS. Nothing in Lean hashes anything: it is a label: what it is worth is what the hold of that sum in a sandbox is worth. -/
noncomputable def Try.pinned : Pinned := { name := "ytnooiiojlkkpeaa", sum := "ac809330e2bb0efc8f4a2a297fffbf22ab8ca4a50f36af49494e511513d1a330", checked := Try.checked }
namespace Rows
def none {H : Type} : Left H := { results := [], args := [] }

/-- 'ballastlaw13.KindsWrites': WHATEVER THE INPUT: true; the input reads as it did. -/
def kindsWritesSpec : ChangeSpec := { name := "kindsWrites", fn := fun _ => fun
  | [d1, d2, d3] => { results := [.lit (.bool true)], args := [d1, d2, d3] }
  | _ => none }
def kindsWritesRow : OpenClaim := { program := "ytnooiiojlkkpeaa", sum := "ac809330e2bb0efc8f4a2a297fffbf22ab8ca4a50f36af49494e511513d1a330", func := "ballast/ballastlaw13.KindsWrites", spec := "kindsWrites", apart := false }
def KindsWritesSaid : Prop := kindsWritesRow.holds Try.pinned (OpenSpec.ofChange kindsWritesSpec)

/-- ITS FALSE NEIGHBOUR: 'it returns false'. Refute it at one input. -/
def kindsWritesWrong : ChangeSpec := { name := "kindsWrites", fn := fun _ => fun
  | [d1, d2, d3] => { results := [.lit (.bool false)], args := [d1, d2, d3] }
  | _ => none }
def KindsWritesWrongFalsely : Prop := kindsWritesRow.holds Try.pinned (OpenSpec.ofChange kindsWritesWrong)

/-- 'ballastlaw13.KindsOne': WHATEVER THE INPUT: true; the input reads as it did. -/
def kindsOneSpec : ChangeSpec := { name := "kindsOne", fn := fun _ => fun
  | [d1, d2, d3, d4] => { results := [.lit (.bool true)], args := [d1, d2, d3, d4] }
  | _ => none }
def kindsOneRow : OpenClaim := { program := "ytnooiiojlkkpeaa", sum := "ac809330e2bb0efc8f4a2a297fffbf22ab8ca4a50f36af49494e511513d1a330", func := "ballast/ballastlaw13.KindsOne", spec := "kindsOne", apart := false }
def KindsOneSaid : Prop := kindsOneRow.holds Try.pinned (OpenSpec.ofChange kindsOneSpec)

/-- ITS FALSE NEIGHBOUR: 'it returns false'. Refute it at one input. -/
def kindsOneWrong : ChangeSpec := { name := "kindsOne", fn := fun _ => fun
  | [d1, d2, d3, d4] => { results := [.lit (.bool false)], args := [d1, d2, d3, d4] }
  | _ => none }
def KindsOneWrongFalsely : Prop := kindsOneRow.holds Try.pinned (OpenSpec.ofChange kindsOneWrong)

/-- 'ballastlaw13.KindsSpoilt': WHATEVER THE INPUT: true; the input reads as it did. -/
def kindsSpoiltSpec : ChangeSpec := { name := "kindsSpoilt", fn := fun _ => fun
  | [d1, d2] => { results := [.lit (.bool true)], args := [d1, d2] }
  | _ => none }
def kindsSpoiltRow : OpenClaim := { program := "ytnooiiojlkkpeaa", sum := "ac809330e2bb0efc8f4a2a297fffbf22ab8ca4a50f36af49494e511513d1a330", func := "ballast/ballastlaw13.KindsSpoilt", spec := "kindsSpoilt", apart := false }
def KindsSpoiltSaid : Prop := kindsSpoiltRow.holds Try.pinned (OpenSpec.ofChange kindsSpoiltSpec)

/-- ITS FALSE NEIGHBOUR: 'it returns false'. Refute it at one input. -/
def kindsSpoiltWrong : ChangeSpec := { name := "kindsSpoilt", fn := fun _ => fun
  | [d1, d2] => { results := [.lit (.bool false)], args := [d1, d2] }
  | _ => none }
def KindsSpoiltWrongFalsely : Prop := kindsSpoiltRow.holds Try.pinned (OpenSpec.ofChange kindsSpoiltWrong)

/-- 'ballastlaw13.KindsSize': WHATEVER THE INPUT: true; the input reads as it did. -/
def kindsSizeSpec : ChangeSpec := { name := "kindsSize", fn := fun _ => fun
  | [d1, d2] => { results := [.lit (.bool true)], args := [d1, d2] }
  | _ => none }
def kindsSizeRow : OpenClaim := { program := "ytnooiiojlkkpeaa", sum := "ac809330e2bb0efc8f4a2a297fffbf22ab8ca4a50f36af49494e511513d1a330", func := "ballast/ballastlaw13.KindsSize", spec := "kindsSize", apart := false }
def KindsSizeSaid : Prop := kindsSizeRow.holds Try.pinned (OpenSpec.ofChange kindsSizeSpec)

/-- ITS FALSE NEIGHBOUR: 'it returns false'. Refute it at one input. -/
def kindsSizeWrong : ChangeSpec := { name := "kindsSize", fn := fun _ => fun
  | [d1, d2] => { results := [.lit (.bool false)], args := [d1, d2] }
  | _ => none }
def KindsSizeWrongFalsely : Prop := kindsSizeRow.holds Try.pinned (OpenSpec.ofChange kindsSizeWrong)

/-- 'ballastlaw13.KindsTables': WHATEVER THE INPUT: true; the input reads as it did. -/
def kindsTablesSpec : ChangeSpec := { name := "kindsTables", fn := fun _ => fun
  | [d1, d2] => { results := [.lit (.bool true)], args := [d1, d2] }
  | _ => none }
def kindsTablesRow : OpenClaim := { program := "ytnooiiojlkkpeaa", sum := "ac809330e2bb0efc8f4a2a297fffbf22ab8ca4a50f36af49494e511513d1a330", func := "ballast/ballastlaw13.KindsTables", spec := "kindsTables", apart := false }
def KindsTablesSaid : Prop := kindsTablesRow.holds Try.pinned (OpenSpec.ofChange kindsTablesSpec)

/-- ITS FALSE NEIGHBOUR: 'it returns false'. Refute it at one input. -/
def kindsTablesWrong : ChangeSpec := { name := "kindsTables", fn := fun _ => fun
  | [d1, d2] => { results := [.lit (.bool false)], args := [d1, d2] }
  | _ => none }
def KindsTablesWrongFalsely : Prop := kindsTablesRow.holds Try.pinned (OpenSpec.ofChange kindsTablesWrong)

/-- 'ballastlaw13.KindsNames': WHATEVER THE INPUT: true; the input reads as it did. -/
def kindsNamesSpec : ChangeSpec := { name := "kindsNames", fn := fun _ => fun
  | [] => { results := [.lit (.bool true)], args := [] }
  | _ => none }
def kindsNamesRow : OpenClaim := { program := "ytnooiiojlkkpeaa", sum := "ac809330e2bb0efc8f4a2a297fffbf22ab8ca4a50f36af49494e511513d1a330", func := "ballast/ballastlaw13.KindsNames", spec := "kindsNames", apart := false }
def KindsNamesSaid : Prop := kindsNamesRow.holds Try.pinned (OpenSpec.ofChange kindsNamesSpec)

/-- ITS FALSE NEIGHBOUR: 'it returns false'. Refute it at one input. -/
def kindsNamesWrong : ChangeSpec := { name := "kindsNames", fn := fun _ => fun
  | [] => { results := [.lit (.bool false)], args := [] }
  | _ => none }
def KindsNamesWrongFalsely : Prop := kindsNamesRow.holds Try.pinned (OpenSpec.ofChange kindsNamesWrong)

/-- 'ballastlaw13.KindsTypes': WHATEVER THE INPUT: true; the input reads as it did. -/
def kindsTypesSpec : ChangeSpec := { name := "kindsTypes", fn := fun _ => fun
  | [d1, d2] => { results := [.lit (.bool true)], args := [d1, d2] }
  | _ => none }
def kindsTypesRow : OpenClaim := { program := "ytnooiiojlkkpeaa", sum := "ac809330e2bb0efc8f4a2a297fffbf22ab8ca4a50f36af49494e511513d1a330", func := "ballast/ballastlaw13.KindsTypes", spec := "kindsTypes", apart := false }
def KindsTypesSaid : Prop := kindsTypesRow.holds Try.pinned (OpenSpec.ofChange kindsTypesSpec)

/-- ITS FALSE NEIGHBOUR: 'it returns false'. Refute it at one input. -/
def kindsTypesWrong : ChangeSpec := { name := "kindsTypes", fn := fun _ => fun
  | [d1, d2] => { results := [.lit (.bool false)], args := [d1, d2] }
  | _ => none }
def KindsTypesWrongFalsely : Prop := kindsTypesRow.holds Try.pinned (OpenSpec.ofChange kindsTypesWrong)

/- THE SECOND FORM. 'bulk': how many values and letters a reading holds, each counted each time it is reached (what is shared counts as often as it is met; a slice's spare places count too). A statement '..UptoSaid' is the law's where the arguments, and the package variables that the reading takes, are together of bulk at most 1048576: NARROWER than '..Said'. Prove '..Said' where nothing that the law and all that it calls make is longer than what came in: it says more and counts as full. Else prove '..UptoSaid'. A law counts once. -/
mutual
def uptoBulk {H : Type} : DataW H → Nat
  | .lit (.string bytes) => bytes.length + 1
  | .lit _ => 1
  | .nil => 1
  | .ptr d => uptoBulk d + 1
  | .slice elems spare => uptoBulkAll elems + uptoBulkAll spare + 1
  | .agg parts => uptoBulkAll parts + 1
  | .iface _ d => uptoBulk d + 1
  | .map entries => uptoBulkEntries entries + 1
  | .held _ => 1
def uptoBulkAll {H : Type} : List (DataW H) → Nat
  | [] => 0
  | d :: r => uptoBulk d + uptoBulkAll r
def uptoBulkEntries {H : Type} : List (Lit × DataW H) → Nat
  | [] => 0
  | x :: r => uptoBulkEntry x + uptoBulkEntries r
def uptoBulkEntry {H : Type} : Lit × DataW H → Nat
  | (.string bytes, d) => bytes.length + uptoBulk d + 1
  | (_, d) => uptoBulk d + 1
 end
def uptoSmall : (H : Type) → List (DataW H) → Bool := fun _ ds => decide (uptoBulkAll ds ≤ 1048576)
def OpenSpec.upto (s : _root_.Go.ChangeSpec) : _root_.Go.OpenSpec := { _root_.Go.OpenSpec.ofChange s with cond := some uptoSmall }

/-- 'ballastlaw13.KindsWrites', WHERE WHAT IT READS IS OF BULK AT MOST 1048576: true; the input reads as it did. -/
def kindsWritesUptoRow : OpenClaim := { program := "ytnooiiojlkkpeaa", sum := "ac809330e2bb0efc8f4a2a297fffbf22ab8ca4a50f36af49494e511513d1a330", func := "ballast/ballastlaw13.KindsWrites", spec := "kindsWrites", apart := false, narrowed := true }
def KindsWritesUptoSaid : Prop := kindsWritesUptoRow.holds Try.pinned (OpenSpec.upto kindsWritesSpec)

/-- 'ballastlaw13.KindsOne', WHERE WHAT IT READS IS OF BULK AT MOST 1048576: true; the input reads as it did. -/
def kindsOneUptoRow : OpenClaim := { program := "ytnooiiojlkkpeaa", sum := "ac809330e2bb0efc8f4a2a297fffbf22ab8ca4a50f36af49494e511513d1a330", func := "ballast/ballastlaw13.KindsOne", spec := "kindsOne", apart := false, narrowed := true }
def KindsOneUptoSaid : Prop := kindsOneUptoRow.holds Try.pinned (OpenSpec.upto kindsOneSpec)

/-- 'ballastlaw13.KindsSpoilt', WHERE WHAT IT READS IS OF BULK AT MOST 1048576: true; the input reads as it did. -/
def kindsSpoiltUptoRow : OpenClaim := { program := "ytnooiiojlkkpeaa", sum := "ac809330e2bb0efc8f4a2a297fffbf22ab8ca4a50f36af49494e511513d1a330", func := "ballast/ballastlaw13.KindsSpoilt", spec := "kindsSpoilt", apart := false, narrowed := true }
def KindsSpoiltUptoSaid : Prop := kindsSpoiltUptoRow.holds Try.pinned (OpenSpec.upto kindsSpoiltSpec)

/-- 'ballastlaw13.KindsSize', WHERE WHAT IT READS IS OF BULK AT MOST 1048576: true; the input reads as it did. -/
def kindsSizeUptoRow : OpenClaim := { program := "ytnooiiojlkkpeaa", sum := "ac809330e2bb0efc8f4a2a297fffbf22ab8ca4a50f36af49494e511513d1a330", func := "ballast/ballastlaw13.KindsSize", spec := "kindsSize", apart := false, narrowed := true }
def KindsSizeUptoSaid : Prop := kindsSizeUptoRow.holds Try.pinned (OpenSpec.upto kindsSizeSpec)

/-- 'ballastlaw13.KindsTables', WHERE WHAT IT READS IS OF BULK AT MOST 1048576: true; the input reads as it did. -/
def kindsTablesUptoRow : OpenClaim := { program := "ytnooiiojlkkpeaa", sum := "ac809330e2bb0efc8f4a2a297fffbf22ab8ca4a50f36af49494e511513d1a330", func := "ballast/ballastlaw13.KindsTables", spec := "kindsTables", apart := false, narrowed := true }
def KindsTablesUptoSaid : Prop := kindsTablesUptoRow.holds Try.pinned (OpenSpec.upto kindsTablesSpec)

/-- 'ballastlaw13.KindsNames', WHERE WHAT IT READS IS OF BULK AT MOST 1048576: true; the input reads as it did. -/
def kindsNamesUptoRow : OpenClaim := { program := "ytnooiiojlkkpeaa", sum := "ac809330e2bb0efc8f4a2a297fffbf22ab8ca4a50f36af49494e511513d1a330", func := "ballast/ballastlaw13.KindsNames", spec := "kindsNames", apart := false, narrowed := true }
def KindsNamesUptoSaid : Prop := kindsNamesUptoRow.holds Try.pinned (OpenSpec.upto kindsNamesSpec)

/-- 'ballastlaw13.KindsTypes', WHERE WHAT IT READS IS OF BULK AT MOST 1048576: true; the input reads as it did. -/
def kindsTypesUptoRow : OpenClaim := { program := "ytnooiiojlkkpeaa", sum := "ac809330e2bb0efc8f4a2a297fffbf22ab8ca4a50f36af49494e511513d1a330", func := "ballast/ballastlaw13.KindsTypes", spec := "kindsTypes", apart := false, narrowed := true }
def KindsTypesUptoSaid : Prop := kindsTypesUptoRow.holds Try.pinned (OpenSpec.upto kindsTypesSpec)

end Rows
end Go.Proofs.Ytnooiiojlkkpeaa
