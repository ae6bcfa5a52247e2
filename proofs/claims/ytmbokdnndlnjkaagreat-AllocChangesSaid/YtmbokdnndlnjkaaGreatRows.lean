/-
  No cell of these rows narrows 'for every input' (looked for: loops, veiled, ifaces, maps, wideKeys, modest, calm, conditions, laid).
  DERIVED. THE GIVEN ROWS OF THIS SEAT. 3 by the template 'for every input the law returns true; each argument reads behind the call as it read before'; 0 by the template 'total and deterministic' (their statements: YtmbokdnndlnjkaaGreatTotals.lean).
  GIVEN WITH THE SEED: the statements are not yours to turn. If you find one false, say at which input.
  Laid BY PROGRAM, IN A SANDBOX (cutbox-rows.mjs): the forced cells as the released guide's own fill.sh prints them over the translation 17e5de4218e7c1f4… (all of the seat's roots in one cut). By AI agents, Wed Nov 11 2026. No macro, syntax, notation, axiom, sorry.
-/
import Derived.Test.YtmbokdnndlnjkaaGreatChecked
import GoSem.Claim
import GoSem.ClaimJoined
import GoSem.ClaimMapViews
import Derived.JoinedTies
import Derived.KernelRfl
namespace Go.Proofs.YtmbokdnndlnjkaaGreat
/- THE CELL 'sum', in the pinned program and in every row, IS THE sha256 OF THE DUMP (.gsa) THAT YtmbokdnndlnjkaaGreatProg.lean LOADS. Nothing in Lean hashes anything: it is a label: what it is worth is what the hold of that sum in a sandbox is worth. -/
noncomputable def Tryz.pinned : Pinned := { name := "ytmbokdnndlnjkaagreat", sum := "17e5de4218e7c1f4f38efb2ad0d9e3c5b8cc3edc704285f5da31e8114ec0333e", checked := Tryz.checked }
namespace Rows
def none {H : Type} : Left H := { results := [], args := [] }

/-- 'ballasttop.TopChange': WHATEVER THE INPUT: true; the input reads as it did. -/
def topChangeSpec : ChangeSpec := { name := "topChange", fn := fun _ => fun
  | [d1, d2] => { results := [.lit (.bool true)], args := [d1, d2] }
  | _ => none }
def topChangeRow : OpenClaim := { program := "ytmbokdnndlnjkaagreat", sum := "17e5de4218e7c1f4f38efb2ad0d9e3c5b8cc3edc704285f5da31e8114ec0333e", func := "ballast/ballasttop.TopChange", spec := "topChange", unfollowed := true, recurses := true, apart := false }
def TopChangeSaid : Prop := topChangeRow.holds Tryz.pinned (OpenSpec.ofChange topChangeSpec)

/-- ITS FALSE NEIGHBOUR: 'it returns false'. Refute it at one input. -/
def topChangeWrong : ChangeSpec := { name := "topChange", fn := fun _ => fun
  | [d1, d2] => { results := [.lit (.bool false)], args := [d1, d2] }
  | _ => none }
def TopChangeWrongFalsely : Prop := topChangeRow.holds Tryz.pinned (OpenSpec.ofChange topChangeWrong)

/-- 'ballastlaw23.ReleaseChanges': WHATEVER THE INPUT: true; the input reads as it did. -/
def releaseChangesSpec : ChangeSpec := { name := "releaseChanges", fn := fun _ => fun
  | [d1, d2] => { results := [.lit (.bool true)], args := [d1, d2] }
  | _ => none }
def releaseChangesRow : OpenClaim := { program := "ytmbokdnndlnjkaagreat", sum := "17e5de4218e7c1f4f38efb2ad0d9e3c5b8cc3edc704285f5da31e8114ec0333e", func := "ballast/ballastlaw23.ReleaseChanges", spec := "releaseChanges", unfollowed := true, recurses := true, apart := false }
def ReleaseChangesSaid : Prop := releaseChangesRow.holds Tryz.pinned (OpenSpec.ofChange releaseChangesSpec)

/-- ITS FALSE NEIGHBOUR: 'it returns false'. Refute it at one input. -/
def releaseChangesWrong : ChangeSpec := { name := "releaseChanges", fn := fun _ => fun
  | [d1, d2] => { results := [.lit (.bool false)], args := [d1, d2] }
  | _ => none }
def ReleaseChangesWrongFalsely : Prop := releaseChangesRow.holds Tryz.pinned (OpenSpec.ofChange releaseChangesWrong)

/-- 'ballastlaw22.AllocChanges': WHATEVER THE INPUT: true; the input reads as it did. -/
def allocChangesSpec : ChangeSpec := { name := "allocChanges", fn := fun _ => fun
  | [d1, d2] => { results := [.lit (.bool true)], args := [d1, d2] }
  | _ => none }
def allocChangesRow : OpenClaim := { program := "ytmbokdnndlnjkaagreat", sum := "17e5de4218e7c1f4f38efb2ad0d9e3c5b8cc3edc704285f5da31e8114ec0333e", func := "ballast/ballastlaw22.AllocChanges", spec := "allocChanges", unfollowed := true, recurses := true, apart := false }
def AllocChangesSaid : Prop := allocChangesRow.holds Tryz.pinned (OpenSpec.ofChange allocChangesSpec)

/-- ITS FALSE NEIGHBOUR: 'it returns false'. Refute it at one input. -/
def allocChangesWrong : ChangeSpec := { name := "allocChanges", fn := fun _ => fun
  | [d1, d2] => { results := [.lit (.bool false)], args := [d1, d2] }
  | _ => none }
def AllocChangesWrongFalsely : Prop := allocChangesRow.holds Tryz.pinned (OpenSpec.ofChange allocChangesWrong)

/- THE SECOND FORM. 'bulk': how many values and letters a reading holds, each counted each time it is reached (what is shared counts as often as it is met; a slice's spare places count too). A statement '..UptoSaid' is the law's where the arguments, and the package variables that the reading takes, are together of bulk at most 1048576: NARROWER than '..Said'. Prove '..Said' where nothing that the law and all that it calls make is longer than what came in: it says more and counts as full. Else prove '..UptoSaid'. A law counts once. -/
mutual
def uptoBulk {H : Type} : DataW H → Nat
  | .lit (.string bytes) => bytes.length + 1
  | .lit _ => 1
  | .nil => 1
  | .ptr d => uptoBulk d + 1
  | .slice elems spare => uptoBulkAll elems + uptoBulkAll spare + 1
  | .agg parts => uptoBulkAll parts + 1
  | .iface _ d => uptoBulk d + 1
  | .map entries => uptoBulkEntries entries + 1
  | .held _ => 1
def uptoBulkAll {H : Type} : List (DataW H) → Nat
  | [] => 0
  | d :: r => uptoBulk d + uptoBulkAll r
def uptoBulkEntries {H : Type} : List (Lit × DataW H) → Nat
  | [] => 0
  | x :: r => uptoBulkEntry x + uptoBulkEntries r
def uptoBulkEntry {H : Type} : Lit × DataW H → Nat
  | (.string bytes, d) => bytes.length + uptoBulk d + 1
  | (_, d) => uptoBulk d + 1
 end
def uptoSmall : (H : Type) → List (DataW H) → Bool := fun _ ds => decide (uptoBulkAll ds ≤ 1048576)
def OpenSpec.upto (s : _root_.Go.ChangeSpec) : _root_.Go.OpenSpec := { _root_.Go.OpenSpec.ofChange s with cond := some uptoSmall }

/-- 'ballasttop.TopChange', WHERE WHAT IT READS IS OF BULK AT MOST 1048576: true; the input reads as it did. -/
def topChangeUptoRow : OpenClaim := { program := "ytmbokdnndlnjkaagreat", sum := "17e5de4218e7c1f4f38efb2ad0d9e3c5b8cc3edc704285f5da31e8114ec0333e", func := "ballast/ballasttop.TopChange", spec := "topChange", unfollowed := true, recurses := true, apart := false, narrowed := true }
def TopChangeUptoSaid : Prop := topChangeUptoRow.holds Tryz.pinned (OpenSpec.upto topChangeSpec)

/-- 'ballastlaw23.ReleaseChanges', WHERE WHAT IT READS IS OF BULK AT MOST 1048576: true; the input reads as it did. -/
def releaseChangesUptoRow : OpenClaim := { program := "ytmbokdnndlnjkaagreat", sum := "17e5de4218e7c1f4f38efb2ad0d9e3c5b8cc3edc704285f5da31e8114ec0333e", func := "ballast/ballastlaw23.ReleaseChanges", spec := "releaseChanges", unfollowed := true, recurses := true, apart := false, narrowed := true }
def ReleaseChangesUptoSaid : Prop := releaseChangesUptoRow.holds Tryz.pinned (OpenSpec.upto releaseChangesSpec)

/-- 'ballastlaw22.AllocChanges', WHERE WHAT IT READS IS OF BULK AT MOST 1048576: true; the input reads as it did. -/
def allocChangesUptoRow : OpenClaim := { program := "ytmbokdnndlnjkaagreat", sum := "17e5de4218e7c1f4f38efb2ad0d9e3c5b8cc3edc704285f5da31e8114ec0333e", func := "ballast/ballastlaw22.AllocChanges", spec := "allocChanges", unfollowed := true, recurses := true, apart := false, narrowed := true }
def AllocChangesUptoSaid : Prop := allocChangesUptoRow.holds Tryz.pinned (OpenSpec.upto allocChangesSpec)

end Rows
end Go.Proofs.YtmbokdnndlnjkaaGreat
