/-
  No cell of these rows narrows 'for every input' (looked for: loops, veiled, ifaces, maps, wideKeys, modest, calm, conditions, laid).
  DERIVED. THE GIVEN ROWS OF THIS SEAT. 6 by the template 'for every input the law returns true; each argument reads behind the call as it read before'; 0 by the template 'total and deterministic' (their statements: YteiocllnhljpjaaTotals.lean).
  GIVEN WITH THE SEED: the statements are not yours to turn. If you find one false, say at which input.
  Laid BY PROGRAM, IN A SANDBOX (cutbox-rows.mjs): the forced cells as the released guide's own fill.sh prints them over the translation c0cce33638f26db5… (all of the seat's roots in one cut). By AI agents, Wed Nov 11 2026. No macro, syntax, notation, axiom, sorry.
-/
import Derived.Test.YteiocllnhljpjaaChecked
import GoSem.Claim
import GoSem.ClaimJoined
import GoSem.ClaimMapViews
import Derived.JoinedTies
import Derived.KernelRfl
namespace Go.Proofs.Yteiocllnhljpjaa
/- THE CELL 'sum', in the pinned program and in every row, IS THE sha256 OF THE DUMP (.gsa) THAT YteiocllnhljpjaaProg.lean LOADS. Nothing in Lean hashes anything: it is a label: what it is worth is what the hold of that sum in a sandbox is worth. -/
noncomputable def Try.pinned : Pinned := { name := "yteiocllnhljpjaa", sum := "c0cce33638f26db5936a512feac6875227d4e184427cd9b7662e3082bf05a094", checked := Try.checked }
namespace Rows
def none {H : Type} : Left H := { results := [], args := [] }

/-- 'ballastlaw18.HandlesWords': WHATEVER THE INPUT: true; the input reads as it did. -/
def handlesWordsSpec : ChangeSpec := { name := "handlesWords", fn := fun _ => fun
  | [d1, d2] => { results := [.lit (.bool true)], args := [d1, d2] }
  | _ => none }
def handlesWordsRow : OpenClaim := { program := "yteiocllnhljpjaa", sum := "c0cce33638f26db5936a512feac6875227d4e184427cd9b7662e3082bf05a094", func := "ballast/ballastlaw18.HandlesWords", spec := "handlesWords", apart := false }
def HandlesWordsSaid : Prop := handlesWordsRow.holds Try.pinned (OpenSpec.ofChange handlesWordsSpec)

/-- ITS FALSE NEIGHBOUR: 'it returns false'. Refute it at one input. -/
def handlesWordsWrong : ChangeSpec := { name := "handlesWords", fn := fun _ => fun
  | [d1, d2] => { results := [.lit (.bool false)], args := [d1, d2] }
  | _ => none }
def HandlesWordsWrongFalsely : Prop := handlesWordsRow.holds Try.pinned (OpenSpec.ofChange handlesWordsWrong)

/-- 'ballastlaw18.HandlesOne': WHATEVER THE INPUT: true; the input reads as it did. -/
def handlesOneSpec : ChangeSpec := { name := "handlesOne", fn := fun _ => fun
  | [d1, d2, d3] => { results := [.lit (.bool true)], args := [d1, d2, d3] }
  | _ => none }
def handlesOneRow : OpenClaim := { program := "yteiocllnhljpjaa", sum := "c0cce33638f26db5936a512feac6875227d4e184427cd9b7662e3082bf05a094", func := "ballast/ballastlaw18.HandlesOne", spec := "handlesOne", apart := false }
def HandlesOneSaid : Prop := handlesOneRow.holds Try.pinned (OpenSpec.ofChange handlesOneSpec)

/-- ITS FALSE NEIGHBOUR: 'it returns false'. Refute it at one input. -/
def handlesOneWrong : ChangeSpec := { name := "handlesOne", fn := fun _ => fun
  | [d1, d2, d3] => { results := [.lit (.bool false)], args := [d1, d2, d3] }
  | _ => none }
def HandlesOneWrongFalsely : Prop := handlesOneRow.holds Try.pinned (OpenSpec.ofChange handlesOneWrong)

/-- 'ballastlaw18.HandlesCalls': WHATEVER THE INPUT: true; the input reads as it did. -/
def handlesCallsSpec : ChangeSpec := { name := "handlesCalls", fn := fun _ => fun
  | [d1, d2, d3] => { results := [.lit (.bool true)], args := [d1, d2, d3] }
  | _ => none }
def handlesCallsRow : OpenClaim := { program := "yteiocllnhljpjaa", sum := "c0cce33638f26db5936a512feac6875227d4e184427cd9b7662e3082bf05a094", func := "ballast/ballastlaw18.HandlesCalls", spec := "handlesCalls", apart := false }
def HandlesCallsSaid : Prop := handlesCallsRow.holds Try.pinned (OpenSpec.ofChange handlesCallsSpec)

/-- ITS FALSE NEIGHBOUR: 'it returns false'. Refute it at one input. -/
def handlesCallsWrong : ChangeSpec := { name := "handlesCalls", fn := fun _ => fun
  | [d1, d2, d3] => { results := [.lit (.bool false)], args := [d1, d2, d3] }
  | _ => none }
def HandlesCallsWrongFalsely : Prop := handlesCallsRow.holds Try.pinned (OpenSpec.ofChange handlesCallsWrong)

/-- 'ballastlaw18.HandlesNames': WHATEVER THE INPUT: true; the input reads as it did. -/
def handlesNamesSpec : ChangeSpec := { name := "handlesNames", fn := fun _ => fun
  | [] => { results := [.lit (.bool true)], args := [] }
  | _ => none }
def handlesNamesRow : OpenClaim := { program := "yteiocllnhljpjaa", sum := "c0cce33638f26db5936a512feac6875227d4e184427cd9b7662e3082bf05a094", func := "ballast/ballastlaw18.HandlesNames", spec := "handlesNames", apart := false }
def HandlesNamesSaid : Prop := handlesNamesRow.holds Try.pinned (OpenSpec.ofChange handlesNamesSpec)

/-- ITS FALSE NEIGHBOUR: 'it returns false'. Refute it at one input. -/
def handlesNamesWrong : ChangeSpec := { name := "handlesNames", fn := fun _ => fun
  | [] => { results := [.lit (.bool false)], args := [] }
  | _ => none }
def HandlesNamesWrongFalsely : Prop := handlesNamesRow.holds Try.pinned (OpenSpec.ofChange handlesNamesWrong)

/-- 'ballastlaw18.HandlesOnce': WHATEVER THE INPUT: true; the input reads as it did. -/
def handlesOnceSpec : ChangeSpec := { name := "handlesOnce", fn := fun _ => fun
  | [d1, d2] => { results := [.lit (.bool true)], args := [d1, d2] }
  | _ => none }
def handlesOnceRow : OpenClaim := { program := "yteiocllnhljpjaa", sum := "c0cce33638f26db5936a512feac6875227d4e184427cd9b7662e3082bf05a094", func := "ballast/ballastlaw18.HandlesOnce", spec := "handlesOnce", apart := false }
def HandlesOnceSaid : Prop := handlesOnceRow.holds Try.pinned (OpenSpec.ofChange handlesOnceSpec)

/-- ITS FALSE NEIGHBOUR: 'it returns false'. Refute it at one input. -/
def handlesOnceWrong : ChangeSpec := { name := "handlesOnce", fn := fun _ => fun
  | [d1, d2] => { results := [.lit (.bool false)], args := [d1, d2] }
  | _ => none }
def HandlesOnceWrongFalsely : Prop := handlesOnceRow.holds Try.pinned (OpenSpec.ofChange handlesOnceWrong)

/-- 'ballastlaw18.HandlesOthers': WHATEVER THE INPUT: true; the input reads as it did. -/
def handlesOthersSpec : ChangeSpec := { name := "handlesOthers", fn := fun _ => fun
  | [d1, d2, d3] => { results := [.lit (.bool true)], args := [d1, d2, d3] }
  | _ => none }
def handlesOthersRow : OpenClaim := { program := "yteiocllnhljpjaa", sum := "c0cce33638f26db5936a512feac6875227d4e184427cd9b7662e3082bf05a094", func := "ballast/ballastlaw18.HandlesOthers", spec := "handlesOthers", apart := false }
def HandlesOthersSaid : Prop := handlesOthersRow.holds Try.pinned (OpenSpec.ofChange handlesOthersSpec)

/-- ITS FALSE NEIGHBOUR: 'it returns false'. Refute it at one input. -/
def handlesOthersWrong : ChangeSpec := { name := "handlesOthers", fn := fun _ => fun
  | [d1, d2, d3] => { results := [.lit (.bool false)], args := [d1, d2, d3] }
  | _ => none }
def HandlesOthersWrongFalsely : Prop := handlesOthersRow.holds Try.pinned (OpenSpec.ofChange handlesOthersWrong)

/- THE SECOND FORM. 'bulk': how many values and letters a reading holds, each counted each time it is reached (what is shared counts as often as it is met; a slice's spare places count too). A statement '..UptoSaid' is the law's where the arguments, and the package variables that the reading takes, are together of bulk at most 1048576: NARROWER than '..Said'. Prove '..Said' where nothing that the law and all that it calls make is longer than what came in: it says more and counts as full. Else prove '..UptoSaid'. A law counts once. -/
mutual
def uptoBulk {H : Type} : DataW H → Nat
  | .lit (.string bytes) => bytes.length + 1
  | .lit _ => 1
  | .nil => 1
  | .ptr d => uptoBulk d + 1
  | .slice elems spare => uptoBulkAll elems + uptoBulkAll spare + 1
  | .agg parts => uptoBulkAll parts + 1
  | .iface _ d => uptoBulk d + 1
  | .map entries => uptoBulkEntries entries + 1
  | .held _ => 1
def uptoBulkAll {H : Type} : List (DataW H) → Nat
  | [] => 0
  | d :: r => uptoBulk d + uptoBulkAll r
def uptoBulkEntries {H : Type} : List (Lit × DataW H) → Nat
  | [] => 0
  | x :: r => uptoBulkEntry x + uptoBulkEntries r
def uptoBulkEntry {H : Type} : Lit × DataW H → Nat
  | (.string bytes, d) => bytes.length + uptoBulk d + 1
  | (_, d) => uptoBulk d + 1
 end
def uptoSmall : (H : Type) → List (DataW H) → Bool := fun _ ds => decide (uptoBulkAll ds ≤ 1048576)
def OpenSpec.upto (s : _root_.Go.ChangeSpec) : _root_.Go.OpenSpec := { _root_.Go.OpenSpec.ofChange s with cond := some uptoSmall }

/-- 'ballastlaw18.HandlesWords', WHERE WHAT IT READS IS OF BULK AT MOST 1048576: true; the input reads as it did. -/
def handlesWordsUptoRow : OpenClaim := { program := "yteiocllnhljpjaa", sum := "c0cce33638f26db5936a512feac6875227d4e184427cd9b7662e3082bf05a094", func := "ballast/ballastlaw18.HandlesWords", spec := "handlesWords", apart := false, narrowed := true }
def HandlesWordsUptoSaid : Prop := handlesWordsUptoRow.holds Try.pinned (OpenSpec.upto handlesWordsSpec)

/-- 'ballastlaw18.HandlesOne', WHERE WHAT IT READS IS OF BULK AT MOST 1048576: true; the input reads as it did. -/
def handlesOneUptoRow : OpenClaim := { program := "yteiocllnhljpjaa", sum := "c0cce33638f26db5936a512feac6875227d4e184427cd9b7662e3082bf05a094", func := "ballast/ballastlaw18.HandlesOne", spec := "handlesOne", apart := false, narrowed := true }
def HandlesOneUptoSaid : Prop := handlesOneUptoRow.holds Try.pinned (OpenSpec.upto handlesOneSpec)

/-- 'ballastlaw18.HandlesCalls', WHERE WHAT IT READS IS OF BULK AT MOST 1048576: true; the input reads as it did. -/
def handlesCallsUptoRow : OpenClaim := { program := "yteiocllnhljpjaa", sum := "c0cce33638f26db5936a512feac6875227d4e184427cd9b7662e3082bf05a094", func := "ballast/ballastlaw18.HandlesCalls", spec := "handlesCalls", apart := false, narrowed := true }
def HandlesCallsUptoSaid : Prop := handlesCallsUptoRow.holds Try.pinned (OpenSpec.upto handlesCallsSpec)

/-- 'ballastlaw18.HandlesNames', WHERE WHAT IT READS IS OF BULK AT MOST 1048576: true; the input reads as it did. -/
def handlesNamesUptoRow : OpenClaim := { program := "yteiocllnhljpjaa", sum := "c0cce33638f26db5936a512feac6875227d4e184427cd9b7662e3082bf05a094", func := "ballast/ballastlaw18.HandlesNames", spec := "handlesNames", apart := false, narrowed := true }
def HandlesNamesUptoSaid : Prop := handlesNamesUptoRow.holds Try.pinned (OpenSpec.upto handlesNamesSpec)

/-- 'ballastlaw18.HandlesOnce', WHERE WHAT IT READS IS OF BULK AT MOST 1048576: true; the input reads as it did. -/
def handlesOnceUptoRow : OpenClaim := { program := "yteiocllnhljpjaa", sum := "c0cce33638f26db5936a512feac6875227d4e184427cd9b7662e3082bf05a094", func := "ballast/ballastlaw18.HandlesOnce", spec := "handlesOnce", apart := false, narrowed := true }
def HandlesOnceUptoSaid : Prop := handlesOnceUptoRow.holds Try.pinned (OpenSpec.upto handlesOnceSpec)

/-- 'ballastlaw18.HandlesOthers', WHERE WHAT IT READS IS OF BULK AT MOST 1048576: true; the input reads as it did. -/
def handlesOthersUptoRow : OpenClaim := { program := "yteiocllnhljpjaa", sum := "c0cce33638f26db5936a512feac6875227d4e184427cd9b7662e3082bf05a094", func := "ballast/ballastlaw18.HandlesOthers", spec := "handlesOthers", apart := false, narrowed := true }
def HandlesOthersUptoSaid : Prop := handlesOthersUptoRow.holds Try.pinned (OpenSpec.upto handlesOthersSpec)

end Rows
end Go.Proofs.Yteiocllnhljpjaa
