/-
  No cell of these rows narrows 'for every input' (looked for: loops, veiled, ifaces, maps, wideKeys, modest, calm, conditions, laid).
  DERIVED. THE GIVEN ROWS OF THIS SEAT. 7 by the template 'for every input the law returns true; each argument reads behind the call as it read before'; 0 by the template 'total and deterministic' (their statements: YtmbokdnndlnjkaaTotals.lean).
  GIVEN WITH THE SEED: the statements are not yours to turn. If you find one false, say at which input.
  Laid BY PROGRAM, IN A SANDBOX (cutbox-rows.mjs): the forced cells as the released guide's own fill.sh prints them over the translation 703ed69eb0a00190… (all of the seat's roots in one cut). By AI agents, Wed Nov 11 2026. No macro, syntax, notation, axiom, sorry.
-/
import Derived.Test.YtmbokdnndlnjkaaChecked
import GoSem.Claim
import GoSem.ClaimJoined
import GoSem.ClaimMapViews
import Derived.JoinedTies
import Derived.KernelRfl
namespace Go.Proofs.Ytmbokdnndlnjkaa
/- THE CELL 'sum', in the pinned program and in every row, IS THE sha256 OF THE DUMP (.gsa) THAT YtmbokdnndlnjkaaProg.lean LOADS. Nothing in Lean hashes anything: it is a label: what it is worth is what the hold of that sum in a sandbox is worth. -/
noncomputable def Try.pinned : Pinned := { name := "ytmbokdnndlnjkaa", sum := "703ed69eb0a001901c987fac3f777d7161d831a72e325348735929de1d086dd0", checked := Try.checked }
namespace Rows
def none {H : Type} : Left H := { results := [], args := [] }

/-- 'ballastlaw24.FieldsNames': WHATEVER THE INPUT: true; the input reads as it did. -/
def fieldsNamesSpec : ChangeSpec := { name := "fieldsNames", fn := fun _ => fun
  | [] => { results := [.lit (.bool true)], args := [] }
  | _ => none }
def fieldsNamesRow : OpenClaim := { program := "ytmbokdnndlnjkaa", sum := "703ed69eb0a001901c987fac3f777d7161d831a72e325348735929de1d086dd0", func := "ballast/ballastlaw24.FieldsNames", spec := "fieldsNames", unfollowed := true, recurses := true, apart := false }
def FieldsNamesSaid : Prop := fieldsNamesRow.holds Try.pinned (OpenSpec.ofChange fieldsNamesSpec)

/-- ITS FALSE NEIGHBOUR: 'it returns false'. Refute it at one input. -/
def fieldsNamesWrong : ChangeSpec := { name := "fieldsNames", fn := fun _ => fun
  | [] => { results := [.lit (.bool false)], args := [] }
  | _ => none }
def FieldsNamesWrongFalsely : Prop := fieldsNamesRow.holds Try.pinned (OpenSpec.ofChange fieldsNamesWrong)

/-- 'ballastlaw22.AllocNames': WHATEVER THE INPUT: true; the input reads as it did. -/
def allocNamesSpec : ChangeSpec := { name := "allocNames", fn := fun _ => fun
  | [] => { results := [.lit (.bool true)], args := [] }
  | _ => none }
def allocNamesRow : OpenClaim := { program := "ytmbokdnndlnjkaa", sum := "703ed69eb0a001901c987fac3f777d7161d831a72e325348735929de1d086dd0", func := "ballast/ballastlaw22.AllocNames", spec := "allocNames", unfollowed := true, recurses := true, apart := false }
def AllocNamesSaid : Prop := allocNamesRow.holds Try.pinned (OpenSpec.ofChange allocNamesSpec)

/-- ITS FALSE NEIGHBOUR: 'it returns false'. Refute it at one input. -/
def allocNamesWrong : ChangeSpec := { name := "allocNames", fn := fun _ => fun
  | [] => { results := [.lit (.bool false)], args := [] }
  | _ => none }
def AllocNamesWrongFalsely : Prop := allocNamesRow.holds Try.pinned (OpenSpec.ofChange allocNamesWrong)

/-- 'ballastlaw22.AllocSmall': WHATEVER THE INPUT: true; the input reads as it did. -/
def allocSmallSpec : ChangeSpec := { name := "allocSmall", fn := fun _ => fun
  | [d1, d2] => { results := [.lit (.bool true)], args := [d1, d2] }
  | _ => none }
def allocSmallRow : OpenClaim := { program := "ytmbokdnndlnjkaa", sum := "703ed69eb0a001901c987fac3f777d7161d831a72e325348735929de1d086dd0", func := "ballast/ballastlaw22.AllocSmall", spec := "allocSmall", unfollowed := true, recurses := true, apart := false }
def AllocSmallSaid : Prop := allocSmallRow.holds Try.pinned (OpenSpec.ofChange allocSmallSpec)

/-- ITS FALSE NEIGHBOUR: 'it returns false'. Refute it at one input. -/
def allocSmallWrong : ChangeSpec := { name := "allocSmall", fn := fun _ => fun
  | [d1, d2] => { results := [.lit (.bool false)], args := [d1, d2] }
  | _ => none }
def AllocSmallWrongFalsely : Prop := allocSmallRow.holds Try.pinned (OpenSpec.ofChange allocSmallWrong)

/-- 'ballastlaw22.AllocAlways': WHATEVER THE INPUT: true; the input reads as it did. -/
def allocAlwaysSpec : ChangeSpec := { name := "allocAlways", fn := fun _ => fun
  | [d1, d2] => { results := [.lit (.bool true)], args := [d1, d2] }
  | _ => none }
def allocAlwaysRow : OpenClaim := { program := "ytmbokdnndlnjkaa", sum := "703ed69eb0a001901c987fac3f777d7161d831a72e325348735929de1d086dd0", func := "ballast/ballastlaw22.AllocAlways", spec := "allocAlways", unfollowed := true, recurses := true, apart := false }
def AllocAlwaysSaid : Prop := allocAlwaysRow.holds Try.pinned (OpenSpec.ofChange allocAlwaysSpec)

/-- ITS FALSE NEIGHBOUR: 'it returns false'. Refute it at one input. -/
def allocAlwaysWrong : ChangeSpec := { name := "allocAlways", fn := fun _ => fun
  | [d1, d2] => { results := [.lit (.bool false)], args := [d1, d2] }
  | _ => none }
def AllocAlwaysWrongFalsely : Prop := allocAlwaysRow.holds Try.pinned (OpenSpec.ofChange allocAlwaysWrong)

/-- 'ballastlaw22.AllocWords': WHATEVER THE INPUT: true; the input reads as it did. -/
def allocWordsSpec : ChangeSpec := { name := "allocWords", fn := fun _ => fun
  | [d1, d2] => { results := [.lit (.bool true)], args := [d1, d2] }
  | _ => none }
def allocWordsRow : OpenClaim := { program := "ytmbokdnndlnjkaa", sum := "703ed69eb0a001901c987fac3f777d7161d831a72e325348735929de1d086dd0", func := "ballast/ballastlaw22.AllocWords", spec := "allocWords", unfollowed := true, recurses := true, apart := false }
def AllocWordsSaid : Prop := allocWordsRow.holds Try.pinned (OpenSpec.ofChange allocWordsSpec)

/-- ITS FALSE NEIGHBOUR: 'it returns false'. Refute it at one input. -/
def allocWordsWrong : ChangeSpec := { name := "allocWords", fn := fun _ => fun
  | [d1, d2] => { results := [.lit (.bool false)], args := [d1, d2] }
  | _ => none }
def AllocWordsWrongFalsely : Prop := allocWordsRow.holds Try.pinned (OpenSpec.ofChange allocWordsWrong)

/-- 'ballastlaw23.ReleaseBack': WHATEVER THE INPUT: true; the input reads as it did. -/
def releaseBackSpec : ChangeSpec := { name := "releaseBack", fn := fun _ => fun
  | [d1, d2] => { results := [.lit (.bool true)], args := [d1, d2] }
  | _ => none }
def releaseBackRow : OpenClaim := { program := "ytmbokdnndlnjkaa", sum := "703ed69eb0a001901c987fac3f777d7161d831a72e325348735929de1d086dd0", func := "ballast/ballastlaw23.ReleaseBack", spec := "releaseBack", unfollowed := true, recurses := true, apart := false }
def ReleaseBackSaid : Prop := releaseBackRow.holds Try.pinned (OpenSpec.ofChange releaseBackSpec)

/-- ITS FALSE NEIGHBOUR: 'it returns false'. Refute it at one input. -/
def releaseBackWrong : ChangeSpec := { name := "releaseBack", fn := fun _ => fun
  | [d1, d2] => { results := [.lit (.bool false)], args := [d1, d2] }
  | _ => none }
def ReleaseBackWrongFalsely : Prop := releaseBackRow.holds Try.pinned (OpenSpec.ofChange releaseBackWrong)

/-- 'ballastlaw22.AllocStays': WHATEVER THE INPUT: true; the input reads as it did. -/
def allocStaysSpec : ChangeSpec := { name := "allocStays", fn := fun _ => fun
  | [d1, d2] => { results := [.lit (.bool true)], args := [d1, d2] }
  | _ => none }
def allocStaysRow : OpenClaim := { program := "ytmbokdnndlnjkaa", sum := "703ed69eb0a001901c987fac3f777d7161d831a72e325348735929de1d086dd0", func := "ballast/ballastlaw22.AllocStays", spec := "allocStays", unfollowed := true, recurses := true, apart := false }
def AllocStaysSaid : Prop := allocStaysRow.holds Try.pinned (OpenSpec.ofChange allocStaysSpec)

/-- ITS FALSE NEIGHBOUR: 'it returns false'. Refute it at one input. -/
def allocStaysWrong : ChangeSpec := { name := "allocStays", fn := fun _ => fun
  | [d1, d2] => { results := [.lit (.bool false)], args := [d1, d2] }
  | _ => none }
def AllocStaysWrongFalsely : Prop := allocStaysRow.holds Try.pinned (OpenSpec.ofChange allocStaysWrong)

/- THE SECOND FORM. 'bulk': how many values and letters a reading holds, each counted each time it is reached (what is shared counts as often as it is met; a slice's spare places count too). A statement '..UptoSaid' is the law's where the arguments, and the package variables that the reading takes, are together of bulk at most 1048576: NARROWER than '..Said'. Prove '..Said' where nothing that the law and all that it calls make is longer than what came in: it says more and counts as full. Else prove '..UptoSaid'. A law counts once. -/
mutual
def uptoBulk {H : Type} : DataW H → Nat
  | .lit (.string bytes) => bytes.length + 1
  | .lit _ => 1
  | .nil => 1
  | .ptr d => uptoBulk d + 1
  | .slice elems spare => uptoBulkAll elems + uptoBulkAll spare + 1
  | .agg parts => uptoBulkAll parts + 1
  | .iface _ d => uptoBulk d + 1
  | .map entries => uptoBulkEntries entries + 1
  | .held _ => 1
def uptoBulkAll {H : Type} : List (DataW H) → Nat
  | [] => 0
  | d :: r => uptoBulk d + uptoBulkAll r
def uptoBulkEntries {H : Type} : List (Lit × DataW H) → Nat
  | [] => 0
  | x :: r => uptoBulkEntry x + uptoBulkEntries r
def uptoBulkEntry {H : Type} : Lit × DataW H → Nat
  | (.string bytes, d) => bytes.length + uptoBulk d + 1
  | (_, d) => uptoBulk d + 1
 end
def uptoSmall : (H : Type) → List (DataW H) → Bool := fun _ ds => decide (uptoBulkAll ds ≤ 1048576)
def OpenSpec.upto (s : _root_.Go.ChangeSpec) : _root_.Go.OpenSpec := { _root_.Go.OpenSpec.ofChange s with cond := some uptoSmall }

/-- 'ballastlaw24.FieldsNames', WHERE WHAT IT READS IS OF BULK AT MOST 1048576: true; the input reads as it did. -/
def fieldsNamesUptoRow : OpenClaim := { program := "ytmbokdnndlnjkaa", sum := "703ed69eb0a001901c987fac3f777d7161d831a72e325348735929de1d086dd0", func := "ballast/ballastlaw24.FieldsNames", spec := "fieldsNames", unfollowed := true, recurses := true, apart := false, narrowed := true }
def FieldsNamesUptoSaid : Prop := fieldsNamesUptoRow.holds Try.pinned (OpenSpec.upto fieldsNamesSpec)

/-- 'ballastlaw22.AllocNames', WHERE WHAT IT READS IS OF BULK AT MOST 1048576: true; the input reads as it did. -/
def allocNamesUptoRow : OpenClaim := { program := "ytmbokdnndlnjkaa", sum := "703ed69eb0a001901c987fac3f777d7161d831a72e325348735929de1d086dd0", func := "ballast/ballastlaw22.AllocNames", spec := "allocNames", unfollowed := true, recurses := true, apart := false, narrowed := true }
def AllocNamesUptoSaid : Prop := allocNamesUptoRow.holds Try.pinned (OpenSpec.upto allocNamesSpec)

/-- 'ballastlaw22.AllocSmall', WHERE WHAT IT READS IS OF BULK AT MOST 1048576: true; the input reads as it did. -/
def allocSmallUptoRow : OpenClaim := { program := "ytmbokdnndlnjkaa", sum := "703ed69eb0a001901c987fac3f777d7161d831a72e325348735929de1d086dd0", func := "ballast/ballastlaw22.AllocSmall", spec := "allocSmall", unfollowed := true, recurses := true, apart := false, narrowed := true }
def AllocSmallUptoSaid : Prop := allocSmallUptoRow.holds Try.pinned (OpenSpec.upto allocSmallSpec)

/-- 'ballastlaw22.AllocAlways', WHERE WHAT IT READS IS OF BULK AT MOST 1048576: true; the input reads as it did. -/
def allocAlwaysUptoRow : OpenClaim := { program := "ytmbokdnndlnjkaa", sum := "703ed69eb0a001901c987fac3f777d7161d831a72e325348735929de1d086dd0", func := "ballast/ballastlaw22.AllocAlways", spec := "allocAlways", unfollowed := true, recurses := true, apart := false, narrowed := true }
def AllocAlwaysUptoSaid : Prop := allocAlwaysUptoRow.holds Try.pinned (OpenSpec.upto allocAlwaysSpec)

/-- 'ballastlaw22.AllocWords', WHERE WHAT IT READS IS OF BULK AT MOST 1048576: true; the input reads as it did. -/
def allocWordsUptoRow : OpenClaim := { program := "ytmbokdnndlnjkaa", sum := "703ed69eb0a001901c987fac3f777d7161d831a72e325348735929de1d086dd0", func := "ballast/ballastlaw22.AllocWords", spec := "allocWords", unfollowed := true, recurses := true, apart := false, narrowed := true }
def AllocWordsUptoSaid : Prop := allocWordsUptoRow.holds Try.pinned (OpenSpec.upto allocWordsSpec)

/-- 'ballastlaw23.ReleaseBack', WHERE WHAT IT READS IS OF BULK AT MOST 1048576: true; the input reads as it did. -/
def releaseBackUptoRow : OpenClaim := { program := "ytmbokdnndlnjkaa", sum := "703ed69eb0a001901c987fac3f777d7161d831a72e325348735929de1d086dd0", func := "ballast/ballastlaw23.ReleaseBack", spec := "releaseBack", unfollowed := true, recurses := true, apart := false, narrowed := true }
def ReleaseBackUptoSaid : Prop := releaseBackUptoRow.holds Try.pinned (OpenSpec.upto releaseBackSpec)

/-- 'ballastlaw22.AllocStays', WHERE WHAT IT READS IS OF BULK AT MOST 1048576: true; the input reads as it did. -/
def allocStaysUptoRow : OpenClaim := { program := "ytmbokdnndlnjkaa", sum := "703ed69eb0a001901c987fac3f777d7161d831a72e325348735929de1d086dd0", func := "ballast/ballastlaw22.AllocStays", spec := "allocStays", unfollowed := true, recurses := true, apart := false, narrowed := true }
def AllocStaysUptoSaid : Prop := allocStaysUptoRow.holds Try.pinned (OpenSpec.upto allocStaysSpec)

end Rows
end Go.Proofs.Ytmbokdnndlnjkaa
