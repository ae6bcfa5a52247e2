/-
  No cell of these rows narrows 'for every input' (looked for: loops, veiled, ifaces, maps, wideKeys, modest, calm, conditions, laid).
  DERIVED. THE GIVEN ROWS OF THIS SEAT. 5 by the template 'for every input the law returns true; each argument reads behind the call as it read before'; 0 by the template 'total and deterministic' (their statements: YtodbbacmdjcheaaTotals.lean).
  GIVEN WITH THE SEED: the statements are not yours to turn. If you find one false, say at which input.
  Laid BY PROGRAM, IN A SANDBOX (cutbox-rows.mjs): the forced cells as the released guide's own fill.sh prints them over the translation 56d96fe9b3f1942e… (all of the seat's roots in one cut). By AI agents, Wed Nov 11 2026. No macro, syntax, notation, axiom, sorry.
-/
import Derived.Test.YtodbbacmdjcheaaChecked
import GoSem.Claim
import GoSem.ClaimJoined
import GoSem.ClaimMapViews
import Derived.JoinedTies
import Derived.KernelRfl
namespace Go.Proofs.Ytodbbacmdjcheaa
/- THE CELL 'sum', in the pinned program and in every row, IS THE sha256 OF THE DUMP (.gsa) THAT YtodbbacmdjcheaaProg.lean LOADS. Nothing in Lean hashes anything: it is a label: what it is worth is what the hold of that sum in a sandbox is worth. -/
noncomputable def Try.pinned : Pinned := { name := "ytodbbacmdjcheaa", sum := "56d96fe9b3f1942e9f56d80ac053f85193b20d8fff3dc1e7552c3e3854097898", checked := Try.checked }
namespace Rows
def none {H : Type} : Left H := { results := [], args := [] }

/-- 'ballastlaw36.FormatMakes': WHATEVER THE INPUT: true; the input reads as it did. -/
def formatMakesSpec : ChangeSpec := { name := "formatMakes", fn := fun _ => fun
  | [d1, d2] => { results := [.lit (.bool true)], args := [d1, d2] }
  | _ => none }
def formatMakesRow : OpenClaim := { program := "ytodbbacmdjcheaa", sum := "56d96fe9b3f1942e9f56d80ac053f85193b20d8fff3dc1e7552c3e3854097898", func := "ballast/ballastlaw36.FormatMakes", spec := "formatMakes", unfollowed := true, recurses := true, apart := false }
def FormatMakesSaid : Prop := formatMakesRow.holds Try.pinned (OpenSpec.ofChange formatMakesSpec)

/-- ITS FALSE NEIGHBOUR: 'it returns false'. Refute it at one input. -/
def formatMakesWrong : ChangeSpec := { name := "formatMakes", fn := fun _ => fun
  | [d1, d2] => { results := [.lit (.bool false)], args := [d1, d2] }
  | _ => none }
def FormatMakesWrongFalsely : Prop := formatMakesRow.holds Try.pinned (OpenSpec.ofChange formatMakesWrong)

/-- 'ballastlaw36.FormatApart': WHATEVER THE INPUT: true; the input reads as it did. -/
def formatApartSpec : ChangeSpec := { name := "formatApart", fn := fun _ => fun
  | [d1, d2, d3, d4] => { results := [.lit (.bool true)], args := [d1, d2, d3, d4] }
  | _ => none }
def formatApartRow : OpenClaim := { program := "ytodbbacmdjcheaa", sum := "56d96fe9b3f1942e9f56d80ac053f85193b20d8fff3dc1e7552c3e3854097898", func := "ballast/ballastlaw36.FormatApart", spec := "formatApart", unfollowed := true, recurses := true, apart := false }
def FormatApartSaid : Prop := formatApartRow.holds Try.pinned (OpenSpec.ofChange formatApartSpec)

/-- ITS FALSE NEIGHBOUR: 'it returns false'. Refute it at one input. -/
def formatApartWrong : ChangeSpec := { name := "formatApart", fn := fun _ => fun
  | [d1, d2, d3, d4] => { results := [.lit (.bool false)], args := [d1, d2, d3, d4] }
  | _ => none }
def FormatApartWrongFalsely : Prop := formatApartRow.holds Try.pinned (OpenSpec.ofChange formatApartWrong)

/-- 'ballastlaw36.FormatRight': WHATEVER THE INPUT: true; the input reads as it did. -/
def formatRightSpec : ChangeSpec := { name := "formatRight", fn := fun _ => fun
  | [d1, d2] => { results := [.lit (.bool true)], args := [d1, d2] }
  | _ => none }
def formatRightRow : OpenClaim := { program := "ytodbbacmdjcheaa", sum := "56d96fe9b3f1942e9f56d80ac053f85193b20d8fff3dc1e7552c3e3854097898", func := "ballast/ballastlaw36.FormatRight", spec := "formatRight", unfollowed := true, recurses := true, apart := false }
def FormatRightSaid : Prop := formatRightRow.holds Try.pinned (OpenSpec.ofChange formatRightSpec)

/-- ITS FALSE NEIGHBOUR: 'it returns false'. Refute it at one input. -/
def formatRightWrong : ChangeSpec := { name := "formatRight", fn := fun _ => fun
  | [d1, d2] => { results := [.lit (.bool false)], args := [d1, d2] }
  | _ => none }
def FormatRightWrongFalsely : Prop := formatRightRow.holds Try.pinned (OpenSpec.ofChange formatRightWrong)

/-- 'ballastlaw36.FormatRoom': WHATEVER THE INPUT: true; the input reads as it did. -/
def formatRoomSpec : ChangeSpec := { name := "formatRoom", fn := fun _ => fun
  | [d1, d2, d3] => { results := [.lit (.bool true)], args := [d1, d2, d3] }
  | _ => none }
def formatRoomRow : OpenClaim := { program := "ytodbbacmdjcheaa", sum := "56d96fe9b3f1942e9f56d80ac053f85193b20d8fff3dc1e7552c3e3854097898", func := "ballast/ballastlaw36.FormatRoom", spec := "formatRoom", unfollowed := true, recurses := true, apart := false }
def FormatRoomSaid : Prop := formatRoomRow.holds Try.pinned (OpenSpec.ofChange formatRoomSpec)

/-- ITS FALSE NEIGHBOUR: 'it returns false'. Refute it at one input. -/
def formatRoomWrong : ChangeSpec := { name := "formatRoom", fn := fun _ => fun
  | [d1, d2, d3] => { results := [.lit (.bool false)], args := [d1, d2, d3] }
  | _ => none }
def FormatRoomWrongFalsely : Prop := formatRoomRow.holds Try.pinned (OpenSpec.ofChange formatRoomWrong)

/-- 'ballastlaw36.FormatNames': WHATEVER THE INPUT: true; the input reads as it did. -/
def formatNamesSpec : ChangeSpec := { name := "formatNames", fn := fun _ => fun
  | [] => { results := [.lit (.bool true)], args := [] }
  | _ => none }
def formatNamesRow : OpenClaim := { program := "ytodbbacmdjcheaa", sum := "56d96fe9b3f1942e9f56d80ac053f85193b20d8fff3dc1e7552c3e3854097898", func := "ballast/ballastlaw36.FormatNames", spec := "formatNames", unfollowed := true, recurses := true, apart := false }
def FormatNamesSaid : Prop := formatNamesRow.holds Try.pinned (OpenSpec.ofChange formatNamesSpec)

/-- ITS FALSE NEIGHBOUR: 'it returns false'. Refute it at one input. -/
def formatNamesWrong : ChangeSpec := { name := "formatNames", fn := fun _ => fun
  | [] => { results := [.lit (.bool false)], args := [] }
  | _ => none }
def FormatNamesWrongFalsely : Prop := formatNamesRow.holds Try.pinned (OpenSpec.ofChange formatNamesWrong)

/- THE SECOND FORM. 'bulk': how many values and letters a reading holds, each counted each time it is reached (what is shared counts as often as it is met; a slice's spare places count too). A statement '..UptoSaid' is the law's where the arguments, and the package variables that the reading takes, are together of bulk at most 1048576: NARROWER than '..Said'. Prove '..Said' where nothing that the law and all that it calls make is longer than what came in: it says more and counts as full. Else prove '..UptoSaid'. A law counts once. -/
mutual
def uptoBulk {H : Type} : DataW H → Nat
  | .lit (.string bytes) => bytes.length + 1
  | .lit _ => 1
  | .nil => 1
  | .ptr d => uptoBulk d + 1
  | .slice elems spare => uptoBulkAll elems + uptoBulkAll spare + 1
  | .agg parts => uptoBulkAll parts + 1
  | .iface _ d => uptoBulk d + 1
  | .map entries => uptoBulkEntries entries + 1
  | .held _ => 1
def uptoBulkAll {H : Type} : List (DataW H) → Nat
  | [] => 0
  | d :: r => uptoBulk d + uptoBulkAll r
def uptoBulkEntries {H : Type} : List (Lit × DataW H) → Nat
  | [] => 0
  | x :: r => uptoBulkEntry x + uptoBulkEntries r
def uptoBulkEntry {H : Type} : Lit × DataW H → Nat
  | (.string bytes, d) => bytes.length + uptoBulk d + 1
  | (_, d) => uptoBulk d + 1
 end
def uptoSmall : (H : Type) → List (DataW H) → Bool := fun _ ds => decide (uptoBulkAll ds ≤ 1048576)
def OpenSpec.upto (s : _root_.Go.ChangeSpec) : _root_.Go.OpenSpec := { _root_.Go.OpenSpec.ofChange s with cond := some uptoSmall }

/-- 'ballastlaw36.FormatMakes', WHERE WHAT IT READS IS OF BULK AT MOST 1048576: true; the input reads as it did. -/
def formatMakesUptoRow : OpenClaim := { program := "ytodbbacmdjcheaa", sum := "56d96fe9b3f1942e9f56d80ac053f85193b20d8fff3dc1e7552c3e3854097898", func := "ballast/ballastlaw36.FormatMakes", spec := "formatMakes", unfollowed := true, recurses := true, apart := false, narrowed := true }
def FormatMakesUptoSaid : Prop := formatMakesUptoRow.holds Try.pinned (OpenSpec.upto formatMakesSpec)

/-- 'ballastlaw36.FormatApart', WHERE WHAT IT READS IS OF BULK AT MOST 1048576: true; the input reads as it did. -/
def formatApartUptoRow : OpenClaim := { program := "ytodbbacmdjcheaa", sum := "56d96fe9b3f1942e9f56d80ac053f85193b20d8fff3dc1e7552c3e3854097898", func := "ballast/ballastlaw36.FormatApart", spec := "formatApart", unfollowed := true, recurses := true, apart := false, narrowed := true }
def FormatApartUptoSaid : Prop := formatApartUptoRow.holds Try.pinned (OpenSpec.upto formatApartSpec)

/-- 'ballastlaw36.FormatRight', WHERE WHAT IT READS IS OF BULK AT MOST 1048576: true; the input reads as it did. -/
def formatRightUptoRow : OpenClaim := { program := "ytodbbacmdjcheaa", sum := "56d96fe9b3f1942e9f56d80ac053f85193b20d8fff3dc1e7552c3e3854097898", func := "ballast/ballastlaw36.FormatRight", spec := "formatRight", unfollowed := true, recurses := true, apart := false, narrowed := true }
def FormatRightUptoSaid : Prop := formatRightUptoRow.holds Try.pinned (OpenSpec.upto formatRightSpec)

/-- 'ballastlaw36.FormatRoom', WHERE WHAT IT READS IS OF BULK AT MOST 1048576: true; the input reads as it did. -/
def formatRoomUptoRow : OpenClaim := { program := "ytodbbacmdjcheaa", sum := "56d96fe9b3f1942e9f56d80ac053f85193b20d8fff3dc1e7552c3e3854097898", func := "ballast/ballastlaw36.FormatRoom", spec := "formatRoom", unfollowed := true, recurses := true, apart := false, narrowed := true }
def FormatRoomUptoSaid : Prop := formatRoomUptoRow.holds Try.pinned (OpenSpec.upto formatRoomSpec)

/-- 'ballastlaw36.FormatNames', WHERE WHAT IT READS IS OF BULK AT MOST 1048576: true; the input reads as it did. -/
def formatNamesUptoRow : OpenClaim := { program := "ytodbbacmdjcheaa", sum := "56d96fe9b3f1942e9f56d80ac053f85193b20d8fff3dc1e7552c3e3854097898", func := "ballast/ballastlaw36.FormatNames", spec := "formatNames", unfollowed := true, recurses := true, apart := false, narrowed := true }
def FormatNamesUptoSaid : Prop := formatNamesUptoRow.holds Try.pinned (OpenSpec.upto formatNamesSpec)

end Rows
end Go.Proofs.Ytodbbacmdjcheaa
