/-
  No cell of these rows narrows 'for every input' (looked for: loops, veiled, ifaces, maps, wideKeys, modest, calm, conditions, laid).
  DERIVED. THE GIVEN ROWS OF THIS SEAT. 5 by the template 'for every input the law returns true; each argument reads behind the call as it read before'; 0 by the template 'total and deterministic' (their statements: YtjjkdmngmopjbaaTotals.lean).
  GIVEN WITH THE SEED: the statements are not yours to turn. If you find one false, say at which input.
  Laid BY PROGRAM, IN A SANDBOX (cutbox-rows.mjs): the forced cells as the released guide's own fill.sh prints them over the translation 3d2309984f3051dd… (all of the seat's roots in one cut). By AI agents, Wed Nov 11 2026. No macro, syntax, notation, axiom, sorry.
-/
import Derived.Test.YtjjkdmngmopjbaaChecked
import GoSem.Claim
import GoSem.ClaimJoined
import GoSem.ClaimMapViews
import Derived.JoinedTies
import Derived.KernelRfl
namespace Go.Proofs.Ytjjkdmngmopjbaa
/- THE CELL 'sum', in the pinned program and in every row, IS THE sha256 OF THE DUMP (.gsa) THAT YtjjkdmngmopjbaaProg.lean LOADS. Nothing in Lean hashes anything: it is a label: what it is worth is what the hold of that sum in a sandbox is worth. -/
noncomputable def Try.pinned : Pinned := { name := "ytjjkdmngmopjbaa", sum := "3d2309984f3051dd3de75563898f10085bab0c5d1d55c775ad86c3f7be6d8577", checked := Try.checked }
namespace Rows
def none {H : Type} : Left H := { results := [], args := [] }

/-- 'assizelaw.WireRecords': WHATEVER THE INPUT: true; the input reads as it did. -/
def wireRecordsSpec : ChangeSpec := { name := "wireRecords", fn := fun _ => fun
  | [d] => { results := [.lit (.bool true)], args := [d] }
  | _ => none }
def wireRecordsRow : OpenClaim := { program := "ytjjkdmngmopjbaa", sum := "3d2309984f3051dd3de75563898f10085bab0c5d1d55c775ad86c3f7be6d8577", func := "assize/assizelaw.WireRecords", spec := "wireRecords", unfollowed := true, recurses := true, apart := false }
def WireRecordsSaid : Prop := wireRecordsRow.holds Try.pinned (OpenSpec.ofChange wireRecordsSpec)

/-- ITS FALSE NEIGHBOUR: 'it returns false'. Refute it at one input. -/
def wireRecordsWrong : ChangeSpec := { name := "wireRecords", fn := fun _ => fun
  | [d] => { results := [.lit (.bool false)], args := [d] }
  | _ => none }
def WireRecordsWrongFalsely : Prop := wireRecordsRow.holds Try.pinned (OpenSpec.ofChange wireRecordsWrong)

/-- 'assizelaw.TrieExact': WHATEVER THE INPUT: true; the input reads as it did. -/
def trieExactSpec : ChangeSpec := { name := "trieExact", fn := fun _ => fun
  | [d1, d2] => { results := [.lit (.bool true)], args := [d1, d2] }
  | _ => none }
def trieExactRow : OpenClaim := { program := "ytjjkdmngmopjbaa", sum := "3d2309984f3051dd3de75563898f10085bab0c5d1d55c775ad86c3f7be6d8577", func := "assize/assizelaw.TrieExact", spec := "trieExact", unfollowed := true, recurses := true, apart := false }
def TrieExactSaid : Prop := trieExactRow.holds Try.pinned (OpenSpec.ofChange trieExactSpec)

/-- ITS FALSE NEIGHBOUR: 'it returns false'. Refute it at one input. -/
def trieExactWrong : ChangeSpec := { name := "trieExact", fn := fun _ => fun
  | [d1, d2] => { results := [.lit (.bool false)], args := [d1, d2] }
  | _ => none }
def TrieExactWrongFalsely : Prop := trieExactRow.holds Try.pinned (OpenSpec.ofChange trieExactWrong)

/-- 'assizelaw.LightExact': WHATEVER THE INPUT: true; the input reads as it did. -/
def lightExactSpec : ChangeSpec := { name := "lightExact", fn := fun _ => fun
  | [d1, d2] => { results := [.lit (.bool true)], args := [d1, d2] }
  | _ => none }
def lightExactRow : OpenClaim := { program := "ytjjkdmngmopjbaa", sum := "3d2309984f3051dd3de75563898f10085bab0c5d1d55c775ad86c3f7be6d8577", func := "assize/assizelaw.LightExact", spec := "lightExact", unfollowed := true, recurses := true, apart := false }
def LightExactSaid : Prop := lightExactRow.holds Try.pinned (OpenSpec.ofChange lightExactSpec)

/-- ITS FALSE NEIGHBOUR: 'it returns false'. Refute it at one input. -/
def lightExactWrong : ChangeSpec := { name := "lightExact", fn := fun _ => fun
  | [d1, d2] => { results := [.lit (.bool false)], args := [d1, d2] }
  | _ => none }
def LightExactWrongFalsely : Prop := lightExactRow.holds Try.pinned (OpenSpec.ofChange lightExactWrong)

/-- 'assizelaw.TrieBinds': WHATEVER THE INPUT: true; the input reads as it did. -/
def trieBindsSpec : ChangeSpec := { name := "trieBinds", fn := fun _ => fun
  | [d1, d2, d3, d4, d5, d6] => { results := [.lit (.bool true)], args := [d1, d2, d3, d4, d5, d6] }
  | _ => none }
def trieBindsRow : OpenClaim := { program := "ytjjkdmngmopjbaa", sum := "3d2309984f3051dd3de75563898f10085bab0c5d1d55c775ad86c3f7be6d8577", func := "assize/assizelaw.TrieBinds", spec := "trieBinds", unfollowed := true, recurses := true, apart := false }
def TrieBindsSaid : Prop := trieBindsRow.holds Try.pinned (OpenSpec.ofChange trieBindsSpec)

/-- ITS FALSE NEIGHBOUR: 'it returns false'. Refute it at one input. -/
def trieBindsWrong : ChangeSpec := { name := "trieBinds", fn := fun _ => fun
  | [d1, d2, d3, d4, d5, d6] => { results := [.lit (.bool false)], args := [d1, d2, d3, d4, d5, d6] }
  | _ => none }
def TrieBindsWrongFalsely : Prop := trieBindsRow.holds Try.pinned (OpenSpec.ofChange trieBindsWrong)

/-- 'assizelaw.TrieChecks': WHATEVER THE INPUT: true; the input reads as it did. -/
def trieChecksSpec : ChangeSpec := { name := "trieChecks", fn := fun _ => fun
  | [d1, d2, d3, d4, d5, d6] => { results := [.lit (.bool true)], args := [d1, d2, d3, d4, d5, d6] }
  | _ => none }
def trieChecksRow : OpenClaim := { program := "ytjjkdmngmopjbaa", sum := "3d2309984f3051dd3de75563898f10085bab0c5d1d55c775ad86c3f7be6d8577", func := "assize/assizelaw.TrieChecks", spec := "trieChecks", unfollowed := true, recurses := true, apart := false }
def TrieChecksSaid : Prop := trieChecksRow.holds Try.pinned (OpenSpec.ofChange trieChecksSpec)

/-- ITS FALSE NEIGHBOUR: 'it returns false'. Refute it at one input. -/
def trieChecksWrong : ChangeSpec := { name := "trieChecks", fn := fun _ => fun
  | [d1, d2, d3, d4, d5, d6] => { results := [.lit (.bool false)], args := [d1, d2, d3, d4, d5, d6] }
  | _ => none }
def TrieChecksWrongFalsely : Prop := trieChecksRow.holds Try.pinned (OpenSpec.ofChange trieChecksWrong)

/- THE SECOND FORM. 'bulk': how many values and letters a reading holds, each counted each time it is reached (what is shared counts as often as it is met; a slice's spare places count too). A statement '..UptoSaid' is the law's where the arguments, and the package variables that the reading takes, are together of bulk at most 1048576: NARROWER than '..Said'. Prove '..Said' where nothing that the law and all that it calls make is longer than what came in: it says more and counts as full. Else prove '..UptoSaid'. A law counts once. -/
mutual
def uptoBulk {H : Type} : DataW H → Nat
  | .lit (.string bytes) => bytes.length + 1
  | .lit _ => 1
  | .nil => 1
  | .ptr d => uptoBulk d + 1
  | .slice elems spare => uptoBulkAll elems + uptoBulkAll spare + 1
  | .agg parts => uptoBulkAll parts + 1
  | .iface _ d => uptoBulk d + 1
  | .map entries => uptoBulkEntries entries + 1
  | .held _ => 1
def uptoBulkAll {H : Type} : List (DataW H) → Nat
  | [] => 0
  | d :: r => uptoBulk d + uptoBulkAll r
def uptoBulkEntries {H : Type} : List (Lit × DataW H) → Nat
  | [] => 0
  | x :: r => uptoBulkEntry x + uptoBulkEntries r
def uptoBulkEntry {H : Type} : Lit × DataW H → Nat
  | (.string bytes, d) => bytes.length + uptoBulk d + 1
  | (_, d) => uptoBulk d + 1
 end
def uptoSmall : (H : Type) → List (DataW H) → Bool := fun _ ds => decide (uptoBulkAll ds ≤ 1048576)
def OpenSpec.upto (s : _root_.Go.ChangeSpec) : _root_.Go.OpenSpec := { _root_.Go.OpenSpec.ofChange s with cond := some uptoSmall }

/-- 'assizelaw.WireRecords', WHERE WHAT IT READS IS OF BULK AT MOST 1048576: true; the input reads as it did. -/
def wireRecordsUptoRow : OpenClaim := { program := "ytjjkdmngmopjbaa", sum := "3d2309984f3051dd3de75563898f10085bab0c5d1d55c775ad86c3f7be6d8577", func := "assize/assizelaw.WireRecords", spec := "wireRecords", unfollowed := true, recurses := true, apart := false, narrowed := true }
def WireRecordsUptoSaid : Prop := wireRecordsUptoRow.holds Try.pinned (OpenSpec.upto wireRecordsSpec)

/-- 'assizelaw.TrieExact', WHERE WHAT IT READS IS OF BULK AT MOST 1048576: true; the input reads as it did. -/
def trieExactUptoRow : OpenClaim := { program := "ytjjkdmngmopjbaa", sum := "3d2309984f3051dd3de75563898f10085bab0c5d1d55c775ad86c3f7be6d8577", func := "assize/assizelaw.TrieExact", spec := "trieExact", unfollowed := true, recurses := true, apart := false, narrowed := true }
def TrieExactUptoSaid : Prop := trieExactUptoRow.holds Try.pinned (OpenSpec.upto trieExactSpec)

/-- 'assizelaw.LightExact', WHERE WHAT IT READS IS OF BULK AT MOST 1048576: true; the input reads as it did. -/
def lightExactUptoRow : OpenClaim := { program := "ytjjkdmngmopjbaa", sum := "3d2309984f3051dd3de75563898f10085bab0c5d1d55c775ad86c3f7be6d8577", func := "assize/assizelaw.LightExact", spec := "lightExact", unfollowed := true, recurses := true, apart := false, narrowed := true }
def LightExactUptoSaid : Prop := lightExactUptoRow.holds Try.pinned (OpenSpec.upto lightExactSpec)

/-- 'assizelaw.TrieBinds', WHERE WHAT IT READS IS OF BULK AT MOST 1048576: true; the input reads as it did. -/
def trieBindsUptoRow : OpenClaim := { program := "ytjjkdmngmopjbaa", sum := "3d2309984f3051dd3de75563898f10085bab0c5d1d55c775ad86c3f7be6d8577", func := "assize/assizelaw.TrieBinds", spec := "trieBinds", unfollowed := true, recurses := true, apart := false, narrowed := true }
def TrieBindsUptoSaid : Prop := trieBindsUptoRow.holds Try.pinned (OpenSpec.upto trieBindsSpec)

/-- 'assizelaw.TrieChecks', WHERE WHAT IT READS IS OF BULK AT MOST 1048576: true; the input reads as it did. -/
def trieChecksUptoRow : OpenClaim := { program := "ytjjkdmngmopjbaa", sum := "3d2309984f3051dd3de75563898f10085bab0c5d1d55c775ad86c3f7be6d8577", func := "assize/assizelaw.TrieChecks", spec := "trieChecks", unfollowed := true, recurses := true, apart := false, narrowed := true }
def TrieChecksUptoSaid : Prop := trieChecksUptoRow.holds Try.pinned (OpenSpec.upto trieChecksSpec)

end Rows
end Go.Proofs.Ytjjkdmngmopjbaa
