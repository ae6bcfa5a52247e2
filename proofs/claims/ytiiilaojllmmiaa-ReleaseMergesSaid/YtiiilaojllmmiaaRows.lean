/-
  No cell of these rows narrows 'for every input' (looked for: loops, veiled, ifaces, maps, wideKeys, modest, calm, conditions, laid).
  DERIVED. THE GIVEN ROWS OF THIS SEAT. 10 by the template 'for every input the law returns true; each argument reads behind the call as it read before'; 0 by the template 'total and deterministic' (their statements: YtiiilaojllmmiaaTotals.lean).
  GIVEN WITH THE SEED: the statements are not yours to turn. If you find one false, say at which input.
  Laid BY PROGRAM, IN A SANDBOX (cutbox-rows.mjs): the forced cells as the released guide's own fill.sh prints them over the translation 454b8ebfb40cbdad… (all of the seat's roots in one cut). By AI agents, Wed Nov 11 2026. No macro, syntax, notation, axiom, sorry.
-/
import Derived.Test.YtiiilaojllmmiaaChecked
import GoSem.Claim
import GoSem.ClaimJoined
import GoSem.ClaimMapViews
import Derived.JoinedTies
import Derived.KernelRfl
namespace Go.Proofs.Ytiiilaojllmmiaa
/- THE CELL 'sum', in the pinned program and in every row, IS THE sha256 OF THE DUMP (.gsa) THAT YtiiilaojllmmiaaProg.lean LOADS. Nothing in Lean hashes anything: it is a label: what it is worth is what the hold of that sum in a sandbox is worth. -/
noncomputable def Try.pinned : Pinned := { name := "ytiiilaojllmmiaa", sum := "454b8ebfb40cbdadf6db6ce7ffd8ea5a5c923ac69fc87dd1d0bb63fb1b0b16b3", checked := Try.checked }
namespace Rows
def none {H : Type} : Left H := { results := [], args := [] }

/-- 'ballastlaw24.FieldsLast': WHATEVER THE INPUT: true; the input reads as it did. -/
def fieldsLastSpec : ChangeSpec := { name := "fieldsLast", fn := fun _ => fun
  | [d1, d2, d3, d4, d5] => { results := [.lit (.bool true)], args := [d1, d2, d3, d4, d5] }
  | _ => none }
def fieldsLastRow : OpenClaim := { program := "ytiiilaojllmmiaa", sum := "454b8ebfb40cbdadf6db6ce7ffd8ea5a5c923ac69fc87dd1d0bb63fb1b0b16b3", func := "ballast/ballastlaw24.FieldsLast", spec := "fieldsLast", unfollowed := true, recurses := true, apart := false }
def FieldsLastSaid : Prop := fieldsLastRow.holds Try.pinned (OpenSpec.ofChange fieldsLastSpec)

/-- ITS FALSE NEIGHBOUR: 'it returns false'. Refute it at one input. -/
def fieldsLastWrong : ChangeSpec := { name := "fieldsLast", fn := fun _ => fun
  | [d1, d2, d3, d4, d5] => { results := [.lit (.bool false)], args := [d1, d2, d3, d4, d5] }
  | _ => none }
def FieldsLastWrongFalsely : Prop := fieldsLastRow.holds Try.pinned (OpenSpec.ofChange fieldsLastWrong)

/-- 'ballastlaw23.ReleaseNames': WHATEVER THE INPUT: true; the input reads as it did. -/
def releaseNamesSpec : ChangeSpec := { name := "releaseNames", fn := fun _ => fun
  | [] => { results := [.lit (.bool true)], args := [] }
  | _ => none }
def releaseNamesRow : OpenClaim := { program := "ytiiilaojllmmiaa", sum := "454b8ebfb40cbdadf6db6ce7ffd8ea5a5c923ac69fc87dd1d0bb63fb1b0b16b3", func := "ballast/ballastlaw23.ReleaseNames", spec := "releaseNames", unfollowed := true, recurses := true, apart := false }
def ReleaseNamesSaid : Prop := releaseNamesRow.holds Try.pinned (OpenSpec.ofChange releaseNamesSpec)

/-- ITS FALSE NEIGHBOUR: 'it returns false'. Refute it at one input. -/
def releaseNamesWrong : ChangeSpec := { name := "releaseNames", fn := fun _ => fun
  | [] => { results := [.lit (.bool false)], args := [] }
  | _ => none }
def ReleaseNamesWrongFalsely : Prop := releaseNamesRow.holds Try.pinned (OpenSpec.ofChange releaseNamesWrong)

/-- 'ballastlaw23.ReleaseStale': WHATEVER THE INPUT: true; the input reads as it did. -/
def releaseStaleSpec : ChangeSpec := { name := "releaseStale", fn := fun _ => fun
  | [d1, d2] => { results := [.lit (.bool true)], args := [d1, d2] }
  | _ => none }
def releaseStaleRow : OpenClaim := { program := "ytiiilaojllmmiaa", sum := "454b8ebfb40cbdadf6db6ce7ffd8ea5a5c923ac69fc87dd1d0bb63fb1b0b16b3", func := "ballast/ballastlaw23.ReleaseStale", spec := "releaseStale", unfollowed := true, recurses := true, apart := false }
def ReleaseStaleSaid : Prop := releaseStaleRow.holds Try.pinned (OpenSpec.ofChange releaseStaleSpec)

/-- ITS FALSE NEIGHBOUR: 'it returns false'. Refute it at one input. -/
def releaseStaleWrong : ChangeSpec := { name := "releaseStale", fn := fun _ => fun
  | [d1, d2] => { results := [.lit (.bool false)], args := [d1, d2] }
  | _ => none }
def ReleaseStaleWrongFalsely : Prop := releaseStaleRow.holds Try.pinned (OpenSpec.ofChange releaseStaleWrong)

/-- 'ballastlaw24.FieldsOthers': WHATEVER THE INPUT: true; the input reads as it did. -/
def fieldsOthersSpec : ChangeSpec := { name := "fieldsOthers", fn := fun _ => fun
  | [d1, d2, d3, d4, d5] => { results := [.lit (.bool true)], args := [d1, d2, d3, d4, d5] }
  | _ => none }
def fieldsOthersRow : OpenClaim := { program := "ytiiilaojllmmiaa", sum := "454b8ebfb40cbdadf6db6ce7ffd8ea5a5c923ac69fc87dd1d0bb63fb1b0b16b3", func := "ballast/ballastlaw24.FieldsOthers", spec := "fieldsOthers", unfollowed := true, recurses := true, apart := false }
def FieldsOthersSaid : Prop := fieldsOthersRow.holds Try.pinned (OpenSpec.ofChange fieldsOthersSpec)

/-- ITS FALSE NEIGHBOUR: 'it returns false'. Refute it at one input. -/
def fieldsOthersWrong : ChangeSpec := { name := "fieldsOthers", fn := fun _ => fun
  | [d1, d2, d3, d4, d5] => { results := [.lit (.bool false)], args := [d1, d2, d3, d4, d5] }
  | _ => none }
def FieldsOthersWrongFalsely : Prop := fieldsOthersRow.holds Try.pinned (OpenSpec.ofChange fieldsOthersWrong)

/-- 'ballastlaw24.FieldsNames': WHATEVER THE INPUT: true; the input reads as it did. -/
def fieldsNamesSpec : ChangeSpec := { name := "fieldsNames", fn := fun _ => fun
  | [] => { results := [.lit (.bool true)], args := [] }
  | _ => none }
def fieldsNamesRow : OpenClaim := { program := "ytiiilaojllmmiaa", sum := "454b8ebfb40cbdadf6db6ce7ffd8ea5a5c923ac69fc87dd1d0bb63fb1b0b16b3", func := "ballast/ballastlaw24.FieldsNames", spec := "fieldsNames", unfollowed := true, recurses := true, apart := false }
def FieldsNamesSaid : Prop := fieldsNamesRow.holds Try.pinned (OpenSpec.ofChange fieldsNamesSpec)

/-- ITS FALSE NEIGHBOUR: 'it returns false'. Refute it at one input. -/
def fieldsNamesWrong : ChangeSpec := { name := "fieldsNames", fn := fun _ => fun
  | [] => { results := [.lit (.bool false)], args := [] }
  | _ => none }
def FieldsNamesWrongFalsely : Prop := fieldsNamesRow.holds Try.pinned (OpenSpec.ofChange fieldsNamesWrong)

/-- 'ballastlaw24.FieldsRoots': WHATEVER THE INPUT: true; the input reads as it did. -/
def fieldsRootsSpec : ChangeSpec := { name := "fieldsRoots", fn := fun _ => fun
  | [d1, d2, d3, d4, d5] => { results := [.lit (.bool true)], args := [d1, d2, d3, d4, d5] }
  | _ => none }
def fieldsRootsRow : OpenClaim := { program := "ytiiilaojllmmiaa", sum := "454b8ebfb40cbdadf6db6ce7ffd8ea5a5c923ac69fc87dd1d0bb63fb1b0b16b3", func := "ballast/ballastlaw24.FieldsRoots", spec := "fieldsRoots", unfollowed := true, recurses := true, apart := false }
def FieldsRootsSaid : Prop := fieldsRootsRow.holds Try.pinned (OpenSpec.ofChange fieldsRootsSpec)

/-- ITS FALSE NEIGHBOUR: 'it returns false'. Refute it at one input. -/
def fieldsRootsWrong : ChangeSpec := { name := "fieldsRoots", fn := fun _ => fun
  | [d1, d2, d3, d4, d5] => { results := [.lit (.bool false)], args := [d1, d2, d3, d4, d5] }
  | _ => none }
def FieldsRootsWrongFalsely : Prop := fieldsRootsRow.holds Try.pinned (OpenSpec.ofChange fieldsRootsWrong)

/-- 'ballastlaw23.ReleaseWords': WHATEVER THE INPUT: true; the input reads as it did. -/
def releaseWordsSpec : ChangeSpec := { name := "releaseWords", fn := fun _ => fun
  | [d1, d2] => { results := [.lit (.bool true)], args := [d1, d2] }
  | _ => none }
def releaseWordsRow : OpenClaim := { program := "ytiiilaojllmmiaa", sum := "454b8ebfb40cbdadf6db6ce7ffd8ea5a5c923ac69fc87dd1d0bb63fb1b0b16b3", func := "ballast/ballastlaw23.ReleaseWords", spec := "releaseWords", unfollowed := true, recurses := true, apart := false }
def ReleaseWordsSaid : Prop := releaseWordsRow.holds Try.pinned (OpenSpec.ofChange releaseWordsSpec)

/-- ITS FALSE NEIGHBOUR: 'it returns false'. Refute it at one input. -/
def releaseWordsWrong : ChangeSpec := { name := "releaseWords", fn := fun _ => fun
  | [d1, d2] => { results := [.lit (.bool false)], args := [d1, d2] }
  | _ => none }
def ReleaseWordsWrongFalsely : Prop := releaseWordsRow.holds Try.pinned (OpenSpec.ofChange releaseWordsWrong)

/-- 'ballastlaw23.ReleaseBack': WHATEVER THE INPUT: true; the input reads as it did. -/
def releaseBackSpec : ChangeSpec := { name := "releaseBack", fn := fun _ => fun
  | [d1, d2] => { results := [.lit (.bool true)], args := [d1, d2] }
  | _ => none }
def releaseBackRow : OpenClaim := { program := "ytiiilaojllmmiaa", sum := "454b8ebfb40cbdadf6db6ce7ffd8ea5a5c923ac69fc87dd1d0bb63fb1b0b16b3", func := "ballast/ballastlaw23.ReleaseBack", spec := "releaseBack", unfollowed := true, recurses := true, apart := false }
def ReleaseBackSaid : Prop := releaseBackRow.holds Try.pinned (OpenSpec.ofChange releaseBackSpec)

/-- ITS FALSE NEIGHBOUR: 'it returns false'. Refute it at one input. -/
def releaseBackWrong : ChangeSpec := { name := "releaseBack", fn := fun _ => fun
  | [d1, d2] => { results := [.lit (.bool false)], args := [d1, d2] }
  | _ => none }
def ReleaseBackWrongFalsely : Prop := releaseBackRow.holds Try.pinned (OpenSpec.ofChange releaseBackWrong)

/-- 'ballastlaw23.ReleaseMerges': WHATEVER THE INPUT: true; the input reads as it did. -/
def releaseMergesSpec : ChangeSpec := { name := "releaseMerges", fn := fun _ => fun
  | [d1, d2] => { results := [.lit (.bool true)], args := [d1, d2] }
  | _ => none }
def releaseMergesRow : OpenClaim := { program := "ytiiilaojllmmiaa", sum := "454b8ebfb40cbdadf6db6ce7ffd8ea5a5c923ac69fc87dd1d0bb63fb1b0b16b3", func := "ballast/ballastlaw23.ReleaseMerges", spec := "releaseMerges", unfollowed := true, recurses := true, apart := false }
def ReleaseMergesSaid : Prop := releaseMergesRow.holds Try.pinned (OpenSpec.ofChange releaseMergesSpec)

/-- ITS FALSE NEIGHBOUR: 'it returns false'. Refute it at one input. -/
def releaseMergesWrong : ChangeSpec := { name := "releaseMerges", fn := fun _ => fun
  | [d1, d2] => { results := [.lit (.bool false)], args := [d1, d2] }
  | _ => none }
def ReleaseMergesWrongFalsely : Prop := releaseMergesRow.holds Try.pinned (OpenSpec.ofChange releaseMergesWrong)

/-- 'ballastlaw24.FieldsModel': WHATEVER THE INPUT: true; the input reads as it did. -/
def fieldsModelSpec : ChangeSpec := { name := "fieldsModel", fn := fun _ => fun
  | [d1, d2, d3, d4, d5] => { results := [.lit (.bool true)], args := [d1, d2, d3, d4, d5] }
  | _ => none }
def fieldsModelRow : OpenClaim := { program := "ytiiilaojllmmiaa", sum := "454b8ebfb40cbdadf6db6ce7ffd8ea5a5c923ac69fc87dd1d0bb63fb1b0b16b3", func := "ballast/ballastlaw24.FieldsModel", spec := "fieldsModel", unfollowed := true, recurses := true, apart := false }
def FieldsModelSaid : Prop := fieldsModelRow.holds Try.pinned (OpenSpec.ofChange fieldsModelSpec)

/-- ITS FALSE NEIGHBOUR: 'it returns false'. Refute it at one input. -/
def fieldsModelWrong : ChangeSpec := { name := "fieldsModel", fn := fun _ => fun
  | [d1, d2, d3, d4, d5] => { results := [.lit (.bool false)], args := [d1, d2, d3, d4, d5] }
  | _ => none }
def FieldsModelWrongFalsely : Prop := fieldsModelRow.holds Try.pinned (OpenSpec.ofChange fieldsModelWrong)

/- THE SECOND FORM. 'bulk': how many values and letters a reading holds, each counted each time it is reached (what is shared counts as often as it is met; a slice's spare places count too). A statement '..UptoSaid' is the law's where the arguments, and the package variables that the reading takes, are together of bulk at most 1048576: NARROWER than '..Said'. Prove '..Said' where nothing that the law and all that it calls make is longer than what came in: it says more and counts as full. Else prove '..UptoSaid'. A law counts once. -/
mutual
def uptoBulk {H : Type} : DataW H → Nat
  | .lit (.string bytes) => bytes.length + 1
  | .lit _ => 1
  | .nil => 1
  | .ptr d => uptoBulk d + 1
  | .slice elems spare => uptoBulkAll elems + uptoBulkAll spare + 1
  | .agg parts => uptoBulkAll parts + 1
  | .iface _ d => uptoBulk d + 1
  | .map entries => uptoBulkEntries entries + 1
  | .held _ => 1
def uptoBulkAll {H : Type} : List (DataW H) → Nat
  | [] => 0
  | d :: r => uptoBulk d + uptoBulkAll r
def uptoBulkEntries {H : Type} : List (Lit × DataW H) → Nat
  | [] => 0
  | x :: r => uptoBulkEntry x + uptoBulkEntries r
def uptoBulkEntry {H : Type} : Lit × DataW H → Nat
  | (.string bytes, d) => bytes.length + uptoBulk d + 1
  | (_, d) => uptoBulk d + 1
 end
def uptoSmall : (H : Type) → List (DataW H) → Bool := fun _ ds => decide (uptoBulkAll ds ≤ 1048576)
def OpenSpec.upto (s : _root_.Go.ChangeSpec) : _root_.Go.OpenSpec := { _root_.Go.OpenSpec.ofChange s with cond := some uptoSmall }

/-- 'ballastlaw24.FieldsLast', WHERE WHAT IT READS IS OF BULK AT MOST 1048576: true; the input reads as it did. -/
def fieldsLastUptoRow : OpenClaim := { program := "ytiiilaojllmmiaa", sum := "454b8ebfb40cbdadf6db6ce7ffd8ea5a5c923ac69fc87dd1d0bb63fb1b0b16b3", func := "ballast/ballastlaw24.FieldsLast", spec := "fieldsLast", unfollowed := true, recurses := true, apart := false, narrowed := true }
def FieldsLastUptoSaid : Prop := fieldsLastUptoRow.holds Try.pinned (OpenSpec.upto fieldsLastSpec)

/-- 'ballastlaw23.ReleaseNames', WHERE WHAT IT READS IS OF BULK AT MOST 1048576: true; the input reads as it did. -/
def releaseNamesUptoRow : OpenClaim := { program := "ytiiilaojllmmiaa", sum := "454b8ebfb40cbdadf6db6ce7ffd8ea5a5c923ac69fc87dd1d0bb63fb1b0b16b3", func := "ballast/ballastlaw23.ReleaseNames", spec := "releaseNames", unfollowed := true, recurses := true, apart := false, narrowed := true }
def ReleaseNamesUptoSaid : Prop := releaseNamesUptoRow.holds Try.pinned (OpenSpec.upto releaseNamesSpec)

/-- 'ballastlaw23.ReleaseStale', WHERE WHAT IT READS IS OF BULK AT MOST 1048576: true; the input reads as it did. -/
def releaseStaleUptoRow : OpenClaim := { program := "ytiiilaojllmmiaa", sum := "454b8ebfb40cbdadf6db6ce7ffd8ea5a5c923ac69fc87dd1d0bb63fb1b0b16b3", func := "ballast/ballastlaw23.ReleaseStale", spec := "releaseStale", unfollowed := true, recurses := true, apart := false, narrowed := true }
def ReleaseStaleUptoSaid : Prop := releaseStaleUptoRow.holds Try.pinned (OpenSpec.upto releaseStaleSpec)

/-- 'ballastlaw24.FieldsOthers', WHERE WHAT IT READS IS OF BULK AT MOST 1048576: true; the input reads as it did. -/
def fieldsOthersUptoRow : OpenClaim := { program := "ytiiilaojllmmiaa", sum := "454b8ebfb40cbdadf6db6ce7ffd8ea5a5c923ac69fc87dd1d0bb63fb1b0b16b3", func := "ballast/ballastlaw24.FieldsOthers", spec := "fieldsOthers", unfollowed := true, recurses := true, apart := false, narrowed := true }
def FieldsOthersUptoSaid : Prop := fieldsOthersUptoRow.holds Try.pinned (OpenSpec.upto fieldsOthersSpec)

/-- 'ballastlaw24.FieldsNames', WHERE WHAT IT READS IS OF BULK AT MOST 1048576: true; the input reads as it did. -/
def fieldsNamesUptoRow : OpenClaim := { program := "ytiiilaojllmmiaa", sum := "454b8ebfb40cbdadf6db6ce7ffd8ea5a5c923ac69fc87dd1d0bb63fb1b0b16b3", func := "ballast/ballastlaw24.FieldsNames", spec := "fieldsNames", unfollowed := true, recurses := true, apart := false, narrowed := true }
def FieldsNamesUptoSaid : Prop := fieldsNamesUptoRow.holds Try.pinned (OpenSpec.upto fieldsNamesSpec)

/-- 'ballastlaw24.FieldsRoots', WHERE WHAT IT READS IS OF BULK AT MOST 1048576: true; the input reads as it did. -/
def fieldsRootsUptoRow : OpenClaim := { program := "ytiiilaojllmmiaa", sum := "454b8ebfb40cbdadf6db6ce7ffd8ea5a5c923ac69fc87dd1d0bb63fb1b0b16b3", func := "ballast/ballastlaw24.FieldsRoots", spec := "fieldsRoots", unfollowed := true, recurses := true, apart := false, narrowed := true }
def FieldsRootsUptoSaid : Prop := fieldsRootsUptoRow.holds Try.pinned (OpenSpec.upto fieldsRootsSpec)

/-- 'ballastlaw23.ReleaseWords', WHERE WHAT IT READS IS OF BULK AT MOST 1048576: true; the input reads as it did. -/
def releaseWordsUptoRow : OpenClaim := { program := "ytiiilaojllmmiaa", sum := "454b8ebfb40cbdadf6db6ce7ffd8ea5a5c923ac69fc87dd1d0bb63fb1b0b16b3", func := "ballast/ballastlaw23.ReleaseWords", spec := "releaseWords", unfollowed := true, recurses := true, apart := false, narrowed := true }
def ReleaseWordsUptoSaid : Prop := releaseWordsUptoRow.holds Try.pinned (OpenSpec.upto releaseWordsSpec)

/-- 'ballastlaw23.ReleaseBack', WHERE WHAT IT READS IS OF BULK AT MOST 1048576: true; the input reads as it did. -/
def releaseBackUptoRow : OpenClaim := { program := "ytiiilaojllmmiaa", sum := "454b8ebfb40cbdadf6db6ce7ffd8ea5a5c923ac69fc87dd1d0bb63fb1b0b16b3", func := "ballast/ballastlaw23.ReleaseBack", spec := "releaseBack", unfollowed := true, recurses := true, apart := false, narrowed := true }
def ReleaseBackUptoSaid : Prop := releaseBackUptoRow.holds Try.pinned (OpenSpec.upto releaseBackSpec)

/-- 'ballastlaw23.ReleaseMerges', WHERE WHAT IT READS IS OF BULK AT MOST 1048576: true; the input reads as it did. -/
def releaseMergesUptoRow : OpenClaim := { program := "ytiiilaojllmmiaa", sum := "454b8ebfb40cbdadf6db6ce7ffd8ea5a5c923ac69fc87dd1d0bb63fb1b0b16b3", func := "ballast/ballastlaw23.ReleaseMerges", spec := "releaseMerges", unfollowed := true, recurses := true, apart := false, narrowed := true }
def ReleaseMergesUptoSaid : Prop := releaseMergesUptoRow.holds Try.pinned (OpenSpec.upto releaseMergesSpec)

/-- 'ballastlaw24.FieldsModel', WHERE WHAT IT READS IS OF BULK AT MOST 1048576: true; the input reads as it did. -/
def fieldsModelUptoRow : OpenClaim := { program := "ytiiilaojllmmiaa", sum := "454b8ebfb40cbdadf6db6ce7ffd8ea5a5c923ac69fc87dd1d0bb63fb1b0b16b3", func := "ballast/ballastlaw24.FieldsModel", spec := "fieldsModel", unfollowed := true, recurses := true, apart := false, narrowed := true }
def FieldsModelUptoSaid : Prop := fieldsModelUptoRow.holds Try.pinned (OpenSpec.upto fieldsModelSpec)

end Rows
end Go.Proofs.Ytiiilaojllmmiaa
