/-
  No cell of these rows narrows 'for every input' (looked for: loops, veiled, ifaces, maps, wideKeys, modest, calm, conditions, laid).
  DERIVED. THE GIVEN ROWS OF THIS SEAT. 12 by the template 'for every input the law returns true; each argument reads behind the call as it read before'; 0 by the template 'total and deterministic' (their statements: YtdgifhgiablgdaaTotals.lean).
  GIVEN WITH THE SEED: the statements are not yours to turn. If you find one false, say at which input.
  Laid BY PROGRAM, IN A SANDBOX (cutbox-rows.mjs): the forced cells as the released guide's own fill.sh prints them over the translation 40b85afb71ea2b33… (all of the seat's roots in one cut). By AI agents, Wed Nov 11 2026. No macro, syntax, notation, axiom, sorry.
-/
import Derived.Test.YtdgifhgiablgdaaChecked
import GoSem.Claim
import GoSem.ClaimJoined
import GoSem.ClaimMapViews
import Derived.JoinedTies
import Derived.KernelRfl
namespace Go.Proofs.Ytdgifhgiablgdaa
/- THE CELL 'sum', in the pinned program and in every row, IS THE sha256 OF THE DUMP (.gsa) THAT YtdgifhgiablgdaaProg.lean LOADS. Nothing in Lean hashes anything: it is a label: what it is worth is what the hold of that sum in a sandbox is worth. -/
noncomputable def Try.pinned : Pinned := { name := "ytdgifhgiablgdaa", sum := "40b85afb71ea2b337dcfe15c24c38d50032d98927a648e0a6c6e10bd288b25f0", checked := Try.checked }
namespace Rows
def none {H : Type} : Left H := { results := [], args := [] }

/-- 'assizelaw.WireEnds': WHATEVER THE INPUT: true; the input reads as it did. -/
def wireEndsSpec : ChangeSpec := { name := "wireEnds", fn := fun _ => fun
  | [d1, d2] => { results := [.lit (.bool true)], args := [d1, d2] }
  | _ => none }
def wireEndsRow : OpenClaim := { program := "ytdgifhgiablgdaa", sum := "40b85afb71ea2b337dcfe15c24c38d50032d98927a648e0a6c6e10bd288b25f0", func := "assize/assizelaw.WireEnds", spec := "wireEnds", apart := false }
def WireEndsSaid : Prop := wireEndsRow.holds Try.pinned (OpenSpec.ofChange wireEndsSpec)

/-- ITS FALSE NEIGHBOUR: 'it returns false'. Refute it at one input. -/
def wireEndsWrong : ChangeSpec := { name := "wireEnds", fn := fun _ => fun
  | [d1, d2] => { results := [.lit (.bool false)], args := [d1, d2] }
  | _ => none }
def WireEndsWrongFalsely : Prop := wireEndsRow.holds Try.pinned (OpenSpec.ofChange wireEndsWrong)

/-- 'assizelaw.BenchMeets': WHATEVER THE INPUT: true; the input reads as it did. -/
def benchMeetsSpec : ChangeSpec := { name := "benchMeets", fn := fun _ => fun
  | [d1, d2, d3] => { results := [.lit (.bool true)], args := [d1, d2, d3] }
  | _ => none }
def benchMeetsRow : OpenClaim := { program := "ytdgifhgiablgdaa", sum := "40b85afb71ea2b337dcfe15c24c38d50032d98927a648e0a6c6e10bd288b25f0", func := "assize/assizelaw.BenchMeets", spec := "benchMeets", apart := false }
def BenchMeetsSaid : Prop := benchMeetsRow.holds Try.pinned (OpenSpec.ofChange benchMeetsSpec)

/-- ITS FALSE NEIGHBOUR: 'it returns false'. Refute it at one input. -/
def benchMeetsWrong : ChangeSpec := { name := "benchMeets", fn := fun _ => fun
  | [d1, d2, d3] => { results := [.lit (.bool false)], args := [d1, d2, d3] }
  | _ => none }
def BenchMeetsWrongFalsely : Prop := benchMeetsRow.holds Try.pinned (OpenSpec.ofChange benchMeetsWrong)

/-- 'assizelaw.BenchTurns': WHATEVER THE INPUT: true; the input reads as it did. -/
def benchTurnsSpec : ChangeSpec := { name := "benchTurns", fn := fun _ => fun
  | [d1, d2, d3] => { results := [.lit (.bool true)], args := [d1, d2, d3] }
  | _ => none }
def benchTurnsRow : OpenClaim := { program := "ytdgifhgiablgdaa", sum := "40b85afb71ea2b337dcfe15c24c38d50032d98927a648e0a6c6e10bd288b25f0", func := "assize/assizelaw.BenchTurns", spec := "benchTurns", apart := false }
def BenchTurnsSaid : Prop := benchTurnsRow.holds Try.pinned (OpenSpec.ofChange benchTurnsSpec)

/-- ITS FALSE NEIGHBOUR: 'it returns false'. Refute it at one input. -/
def benchTurnsWrong : ChangeSpec := { name := "benchTurns", fn := fun _ => fun
  | [d1, d2, d3] => { results := [.lit (.bool false)], args := [d1, d2, d3] }
  | _ => none }
def BenchTurnsWrongFalsely : Prop := benchTurnsRow.holds Try.pinned (OpenSpec.ofChange benchTurnsWrong)

/-- 'assizelaw.TrieNodes': WHATEVER THE INPUT: true; the input reads as it did. -/
def trieNodesSpec : ChangeSpec := { name := "trieNodes", fn := fun _ => fun
  | [d1, d2] => { results := [.lit (.bool true)], args := [d1, d2] }
  | _ => none }
def trieNodesRow : OpenClaim := { program := "ytdgifhgiablgdaa", sum := "40b85afb71ea2b337dcfe15c24c38d50032d98927a648e0a6c6e10bd288b25f0", func := "assize/assizelaw.TrieNodes", spec := "trieNodes", apart := false }
def TrieNodesSaid : Prop := trieNodesRow.holds Try.pinned (OpenSpec.ofChange trieNodesSpec)

/-- ITS FALSE NEIGHBOUR: 'it returns false'. Refute it at one input. -/
def trieNodesWrong : ChangeSpec := { name := "trieNodes", fn := fun _ => fun
  | [d1, d2] => { results := [.lit (.bool false)], args := [d1, d2] }
  | _ => none }
def TrieNodesWrongFalsely : Prop := trieNodesRow.holds Try.pinned (OpenSpec.ofChange trieNodesWrong)

/-- 'assizelaw.Names': WHATEVER THE INPUT: true; the input reads as it did. -/
def namesSpec : ChangeSpec := { name := "names", fn := fun _ => fun
  | [] => { results := [.lit (.bool true)], args := [] }
  | _ => none }
def namesRow : OpenClaim := { program := "ytdgifhgiablgdaa", sum := "40b85afb71ea2b337dcfe15c24c38d50032d98927a648e0a6c6e10bd288b25f0", func := "assize/assizelaw.Names", spec := "names", apart := false }
def NamesSaid : Prop := namesRow.holds Try.pinned (OpenSpec.ofChange namesSpec)

/-- ITS FALSE NEIGHBOUR: 'it returns false'. Refute it at one input. -/
def namesWrong : ChangeSpec := { name := "names", fn := fun _ => fun
  | [] => { results := [.lit (.bool false)], args := [] }
  | _ => none }
def NamesWrongFalsely : Prop := namesRow.holds Try.pinned (OpenSpec.ofChange namesWrong)

/-- 'assizelaw.DigestExact': WHATEVER THE INPUT: true; the input reads as it did. -/
def digestExactSpec : ChangeSpec := { name := "digestExact", fn := fun _ => fun
  | [d1, d2, d3, d4] => { results := [.lit (.bool true)], args := [d1, d2, d3, d4] }
  | _ => none }
def digestExactRow : OpenClaim := { program := "ytdgifhgiablgdaa", sum := "40b85afb71ea2b337dcfe15c24c38d50032d98927a648e0a6c6e10bd288b25f0", func := "assize/assizelaw.DigestExact", spec := "digestExact", recurses := true, apart := false }
def DigestExactSaid : Prop := digestExactRow.holds Try.pinned (OpenSpec.ofChange digestExactSpec)

/-- ITS FALSE NEIGHBOUR: 'it returns false'. Refute it at one input. -/
def digestExactWrong : ChangeSpec := { name := "digestExact", fn := fun _ => fun
  | [d1, d2, d3, d4] => { results := [.lit (.bool false)], args := [d1, d2, d3, d4] }
  | _ => none }
def DigestExactWrongFalsely : Prop := digestExactRow.holds Try.pinned (OpenSpec.ofChange digestExactWrong)

/-- 'assizelaw.WireSmalls': WHATEVER THE INPUT: true; the input reads as it did. -/
def wireSmallsSpec : ChangeSpec := { name := "wireSmalls", fn := fun _ => fun
  | [d1, d2, d3, d4, d5, d6, d7, d8] => { results := [.lit (.bool true)], args := [d1, d2, d3, d4, d5, d6, d7, d8] }
  | _ => none }
def wireSmallsRow : OpenClaim := { program := "ytdgifhgiablgdaa", sum := "40b85afb71ea2b337dcfe15c24c38d50032d98927a648e0a6c6e10bd288b25f0", func := "assize/assizelaw.WireSmalls", spec := "wireSmalls", unfollowed := true, recurses := true, apart := false }
def WireSmallsSaid : Prop := wireSmallsRow.holds Try.pinned (OpenSpec.ofChange wireSmallsSpec)

/-- ITS FALSE NEIGHBOUR: 'it returns false'. Refute it at one input. -/
def wireSmallsWrong : ChangeSpec := { name := "wireSmalls", fn := fun _ => fun
  | [d1, d2, d3, d4, d5, d6, d7, d8] => { results := [.lit (.bool false)], args := [d1, d2, d3, d4, d5, d6, d7, d8] }
  | _ => none }
def WireSmallsWrongFalsely : Prop := wireSmallsRow.holds Try.pinned (OpenSpec.ofChange wireSmallsWrong)

/-- 'assizelaw.CodeChecks': WHATEVER THE INPUT: true; the input reads as it did. -/
def codeChecksSpec : ChangeSpec := { name := "codeChecks", fn := fun _ => fun
  | [d1, d2] => { results := [.lit (.bool true)], args := [d1, d2] }
  | _ => none }
def codeChecksRow : OpenClaim := { program := "ytdgifhgiablgdaa", sum := "40b85afb71ea2b337dcfe15c24c38d50032d98927a648e0a6c6e10bd288b25f0", func := "assize/assizelaw.CodeChecks", spec := "codeChecks", apart := false }
def CodeChecksSaid : Prop := codeChecksRow.holds Try.pinned (OpenSpec.ofChange codeChecksSpec)

/-- ITS FALSE NEIGHBOUR: 'it returns false'. Refute it at one input. -/
def codeChecksWrong : ChangeSpec := { name := "codeChecks", fn := fun _ => fun
  | [d1, d2] => { results := [.lit (.bool false)], args := [d1, d2] }
  | _ => none }
def CodeChecksWrongFalsely : Prop := codeChecksRow.holds Try.pinned (OpenSpec.ofChange codeChecksWrong)

/-- 'assizelaw.DigestHolds': WHATEVER THE INPUT: true; the input reads as it did. -/
def digestHoldsSpec : ChangeSpec := { name := "digestHolds", fn := fun _ => fun
  | [d1, d2, d3, d4, d5, d6, d7] => { results := [.lit (.bool true)], args := [d1, d2, d3, d4, d5, d6, d7] }
  | _ => none }
def digestHoldsRow : OpenClaim := { program := "ytdgifhgiablgdaa", sum := "40b85afb71ea2b337dcfe15c24c38d50032d98927a648e0a6c6e10bd288b25f0", func := "assize/assizelaw.DigestHolds", spec := "digestHolds", recurses := true, apart := false }
def DigestHoldsSaid : Prop := digestHoldsRow.holds Try.pinned (OpenSpec.ofChange digestHoldsSpec)

/-- ITS FALSE NEIGHBOUR: 'it returns false'. Refute it at one input. -/
def digestHoldsWrong : ChangeSpec := { name := "digestHolds", fn := fun _ => fun
  | [d1, d2, d3, d4, d5, d6, d7] => { results := [.lit (.bool false)], args := [d1, d2, d3, d4, d5, d6, d7] }
  | _ => none }
def DigestHoldsWrongFalsely : Prop := digestHoldsRow.holds Try.pinned (OpenSpec.ofChange digestHoldsWrong)

/-- 'assizelaw.DigestClash': WHATEVER THE INPUT: true; the input reads as it did. -/
def digestClashSpec : ChangeSpec := { name := "digestClash", fn := fun _ => fun
  | [d1, d2, d3, d4, d5, d6] => { results := [.lit (.bool true)], args := [d1, d2, d3, d4, d5, d6] }
  | _ => none }
def digestClashRow : OpenClaim := { program := "ytdgifhgiablgdaa", sum := "40b85afb71ea2b337dcfe15c24c38d50032d98927a648e0a6c6e10bd288b25f0", func := "assize/assizelaw.DigestClash", spec := "digestClash", recurses := true, apart := false }
def DigestClashSaid : Prop := digestClashRow.holds Try.pinned (OpenSpec.ofChange digestClashSpec)

/-- ITS FALSE NEIGHBOUR: 'it returns false'. Refute it at one input. -/
def digestClashWrong : ChangeSpec := { name := "digestClash", fn := fun _ => fun
  | [d1, d2, d3, d4, d5, d6] => { results := [.lit (.bool false)], args := [d1, d2, d3, d4, d5, d6] }
  | _ => none }
def DigestClashWrongFalsely : Prop := digestClashRow.holds Try.pinned (OpenSpec.ofChange digestClashWrong)

/-- 'assizelaw.WireTxs': WHATEVER THE INPUT: true; the input reads as it did. -/
def wireTxsSpec : ChangeSpec := { name := "wireTxs", fn := fun _ => fun
  | [d1, d2, d3, d4] => { results := [.lit (.bool true)], args := [d1, d2, d3, d4] }
  | _ => none }
def wireTxsRow : OpenClaim := { program := "ytdgifhgiablgdaa", sum := "40b85afb71ea2b337dcfe15c24c38d50032d98927a648e0a6c6e10bd288b25f0", func := "assize/assizelaw.WireTxs", spec := "wireTxs", unfollowed := true, recurses := true, apart := false }
def WireTxsSaid : Prop := wireTxsRow.holds Try.pinned (OpenSpec.ofChange wireTxsSpec)

/-- ITS FALSE NEIGHBOUR: 'it returns false'. Refute it at one input. -/
def wireTxsWrong : ChangeSpec := { name := "wireTxs", fn := fun _ => fun
  | [d1, d2, d3, d4] => { results := [.lit (.bool false)], args := [d1, d2, d3, d4] }
  | _ => none }
def WireTxsWrongFalsely : Prop := wireTxsRow.holds Try.pinned (OpenSpec.ofChange wireTxsWrong)

/-- 'assizelaw.VoteChecks': WHATEVER THE INPUT: true; the input reads as it did. -/
def voteChecksSpec : ChangeSpec := { name := "voteChecks", fn := fun _ => fun
  | [d1, d2, d3] => { results := [.lit (.bool true)], args := [d1, d2, d3] }
  | _ => none }
def voteChecksRow : OpenClaim := { program := "ytdgifhgiablgdaa", sum := "40b85afb71ea2b337dcfe15c24c38d50032d98927a648e0a6c6e10bd288b25f0", func := "assize/assizelaw.VoteChecks", spec := "voteChecks", unfollowed := true, recurses := true, apart := false }
def VoteChecksSaid : Prop := voteChecksRow.holds Try.pinned (OpenSpec.ofChange voteChecksSpec)

/-- ITS FALSE NEIGHBOUR: 'it returns false'. Refute it at one input. -/
def voteChecksWrong : ChangeSpec := { name := "voteChecks", fn := fun _ => fun
  | [d1, d2, d3] => { results := [.lit (.bool false)], args := [d1, d2, d3] }
  | _ => none }
def VoteChecksWrongFalsely : Prop := voteChecksRow.holds Try.pinned (OpenSpec.ofChange voteChecksWrong)

/- THE SECOND FORM. 'bulk': how many values and letters a reading holds, each counted each time it is reached (what is shared counts as often as it is met; a slice's spare places count too). A statement '..UptoSaid' is the law's where the arguments, and the package variables that the reading takes, are together of bulk at most 1048576: NARROWER than '..Said'. Prove '..Said' where nothing that the law and all that it calls make is longer than what came in: it says more and counts as full. Else prove '..UptoSaid'. A law counts once. -/
mutual
def uptoBulk {H : Type} : DataW H → Nat
  | .lit (.string bytes) => bytes.length + 1
  | .lit _ => 1
  | .nil => 1
  | .ptr d => uptoBulk d + 1
  | .slice elems spare => uptoBulkAll elems + uptoBulkAll spare + 1
  | .agg parts => uptoBulkAll parts + 1
  | .iface _ d => uptoBulk d + 1
  | .map entries => uptoBulkEntries entries + 1
  | .held _ => 1
def uptoBulkAll {H : Type} : List (DataW H) → Nat
  | [] => 0
  | d :: r => uptoBulk d + uptoBulkAll r
def uptoBulkEntries {H : Type} : List (Lit × DataW H) → Nat
  | [] => 0
  | x :: r => uptoBulkEntry x + uptoBulkEntries r
def uptoBulkEntry {H : Type} : Lit × DataW H → Nat
  | (.string bytes, d) => bytes.length + uptoBulk d + 1
  | (_, d) => uptoBulk d + 1
 end
def uptoSmall : (H : Type) → List (DataW H) → Bool := fun _ ds => decide (uptoBulkAll ds ≤ 1048576)
def OpenSpec.upto (s : _root_.Go.ChangeSpec) : _root_.Go.OpenSpec := { _root_.Go.OpenSpec.ofChange s with cond := some uptoSmall }

/-- 'assizelaw.WireEnds', WHERE WHAT IT READS IS OF BULK AT MOST 1048576: true; the input reads as it did. -/
def wireEndsUptoRow : OpenClaim := { program := "ytdgifhgiablgdaa", sum := "40b85afb71ea2b337dcfe15c24c38d50032d98927a648e0a6c6e10bd288b25f0", func := "assize/assizelaw.WireEnds", spec := "wireEnds", apart := false, narrowed := true }
def WireEndsUptoSaid : Prop := wireEndsUptoRow.holds Try.pinned (OpenSpec.upto wireEndsSpec)

/-- 'assizelaw.BenchMeets', WHERE WHAT IT READS IS OF BULK AT MOST 1048576: true; the input reads as it did. -/
def benchMeetsUptoRow : OpenClaim := { program := "ytdgifhgiablgdaa", sum := "40b85afb71ea2b337dcfe15c24c38d50032d98927a648e0a6c6e10bd288b25f0", func := "assize/assizelaw.BenchMeets", spec := "benchMeets", apart := false, narrowed := true }
def BenchMeetsUptoSaid : Prop := benchMeetsUptoRow.holds Try.pinned (OpenSpec.upto benchMeetsSpec)

/-- 'assizelaw.BenchTurns', WHERE WHAT IT READS IS OF BULK AT MOST 1048576: true; the input reads as it did. -/
def benchTurnsUptoRow : OpenClaim := { program := "ytdgifhgiablgdaa", sum := "40b85afb71ea2b337dcfe15c24c38d50032d98927a648e0a6c6e10bd288b25f0", func := "assize/assizelaw.BenchTurns", spec := "benchTurns", apart := false, narrowed := true }
def BenchTurnsUptoSaid : Prop := benchTurnsUptoRow.holds Try.pinned (OpenSpec.upto benchTurnsSpec)

/-- 'assizelaw.TrieNodes', WHERE WHAT IT READS IS OF BULK AT MOST 1048576: true; the input reads as it did. -/
def trieNodesUptoRow : OpenClaim := { program := "ytdgifhgiablgdaa", sum := "40b85afb71ea2b337dcfe15c24c38d50032d98927a648e0a6c6e10bd288b25f0", func := "assize/assizelaw.TrieNodes", spec := "trieNodes", apart := false, narrowed := true }
def TrieNodesUptoSaid : Prop := trieNodesUptoRow.holds Try.pinned (OpenSpec.upto trieNodesSpec)

/-- 'assizelaw.Names', WHERE WHAT IT READS IS OF BULK AT MOST 1048576: true; the input reads as it did. -/
def namesUptoRow : OpenClaim := { program := "ytdgifhgiablgdaa", sum := "40b85afb71ea2b337dcfe15c24c38d50032d98927a648e0a6c6e10bd288b25f0", func := "assize/assizelaw.Names", spec := "names", apart := false, narrowed := true }
def NamesUptoSaid : Prop := namesUptoRow.holds Try.pinned (OpenSpec.upto namesSpec)

/-- 'assizelaw.DigestExact', WHERE WHAT IT READS IS OF BULK AT MOST 1048576: true; the input reads as it did. -/
def digestExactUptoRow : OpenClaim := { program := "ytdgifhgiablgdaa", sum := "40b85afb71ea2b337dcfe15c24c38d50032d98927a648e0a6c6e10bd288b25f0", func := "assize/assizelaw.DigestExact", spec := "digestExact", recurses := true, apart := false, narrowed := true }
def DigestExactUptoSaid : Prop := digestExactUptoRow.holds Try.pinned (OpenSpec.upto digestExactSpec)

/-- 'assizelaw.WireSmalls', WHERE WHAT IT READS IS OF BULK AT MOST 1048576: true; the input reads as it did. -/
def wireSmallsUptoRow : OpenClaim := { program := "ytdgifhgiablgdaa", sum := "40b85afb71ea2b337dcfe15c24c38d50032d98927a648e0a6c6e10bd288b25f0", func := "assize/assizelaw.WireSmalls", spec := "wireSmalls", unfollowed := true, recurses := true, apart := false, narrowed := true }
def WireSmallsUptoSaid : Prop := wireSmallsUptoRow.holds Try.pinned (OpenSpec.upto wireSmallsSpec)

/-- 'assizelaw.CodeChecks', WHERE WHAT IT READS IS OF BULK AT MOST 1048576: true; the input reads as it did. -/
def codeChecksUptoRow : OpenClaim := { program := "ytdgifhgiablgdaa", sum := "40b85afb71ea2b337dcfe15c24c38d50032d98927a648e0a6c6e10bd288b25f0", func := "assize/assizelaw.CodeChecks", spec := "codeChecks", apart := false, narrowed := true }
def CodeChecksUptoSaid : Prop := codeChecksUptoRow.holds Try.pinned (OpenSpec.upto codeChecksSpec)

/-- 'assizelaw.DigestHolds', WHERE WHAT IT READS IS OF BULK AT MOST 1048576: true; the input reads as it did. -/
def digestHoldsUptoRow : OpenClaim := { program := "ytdgifhgiablgdaa", sum := "40b85afb71ea2b337dcfe15c24c38d50032d98927a648e0a6c6e10bd288b25f0", func := "assize/assizelaw.DigestHolds", spec := "digestHolds", recurses := true, apart := false, narrowed := true }
def DigestHoldsUptoSaid : Prop := digestHoldsUptoRow.holds Try.pinned (OpenSpec.upto digestHoldsSpec)

/-- 'assizelaw.DigestClash', WHERE WHAT IT READS IS OF BULK AT MOST 1048576: true; the input reads as it did. -/
def digestClashUptoRow : OpenClaim := { program := "ytdgifhgiablgdaa", sum := "40b85afb71ea2b337dcfe15c24c38d50032d98927a648e0a6c6e10bd288b25f0", func := "assize/assizelaw.DigestClash", spec := "digestClash", recurses := true, apart := false, narrowed := true }
def DigestClashUptoSaid : Prop := digestClashUptoRow.holds Try.pinned (OpenSpec.upto digestClashSpec)

/-- 'assizelaw.WireTxs', WHERE WHAT IT READS IS OF BULK AT MOST 1048576: true; the input reads as it did. -/
def wireTxsUptoRow : OpenClaim := { program := "ytdgifhgiablgdaa", sum := "40b85afb71ea2b337dcfe15c24c38d50032d98927a648e0a6c6e10bd288b25f0", func := "assize/assizelaw.WireTxs", spec := "wireTxs", unfollowed := true, recurses := true, apart := false, narrowed := true }
def WireTxsUptoSaid : Prop := wireTxsUptoRow.holds Try.pinned (OpenSpec.upto wireTxsSpec)

/-- 'assizelaw.VoteChecks', WHERE WHAT IT READS IS OF BULK AT MOST 1048576: true; the input reads as it did. -/
def voteChecksUptoRow : OpenClaim := { program := "ytdgifhgiablgdaa", sum := "40b85afb71ea2b337dcfe15c24c38d50032d98927a648e0a6c6e10bd288b25f0", func := "assize/assizelaw.VoteChecks", spec := "voteChecks", unfollowed := true, recurses := true, apart := false, narrowed := true }
def VoteChecksUptoSaid : Prop := voteChecksUptoRow.holds Try.pinned (OpenSpec.upto voteChecksSpec)

end Rows
end Go.Proofs.Ytdgifhgiablgdaa
