/- Of the texts Trie0. -/
import Derived.Test.YtgjbcahpgkchfaaProg
import Derived.Test.YtgjbcahpgkchfaaG08
import Derived.Laws.ResultCell
set_option linter.unusedSimpArgs false
set_option linter.unusedVariables false
namespace Go.Proofs.Ytgjbcahpgkchfaa
open Go.RowKit
def IsImg (base : Nat) (w : World) (v : Value) (tag : Int) (ps : List (List UInt8)) : Prop := ∃ A c, v = .agg #[.int .i64 tag, .slice A ps.length c] ∧ Strs w w.heap.size A ps ∧ From base A
theorem IsImg.below {base : Nat} {w w' : World} {v : Value} {tag : Int} {ps : List (List UInt8)} (h : IsImg base w v tag ps) (hb : Below w.heap.size w w') : IsImg base w' v tag ps := by
 obtain ⟨A, c, e, hs, hf⟩ := h; exact ⟨A, c, e, (Rd.below hs hb).more hb.size, hf⟩
theorem Strs.laid {w : World} {t : TypeId} (ps : List (List UInt8)) : Strs (w.alloc (.cells (ps.map fun p => Value.string (bs p)).toArray t)) (w.heap.size + 1) (some ⟨w.heap.size, 0, none⟩) ps := by
 have := Rd.laid w (ps.map fun p => Value.string (bs p)).toArray t 1 ps.length (by simp); simpa [Strs] using this
structure Nod where
 kind : Int
 key : List UInt8
 value : List UInt8
 pos : Int
 left : Int
 right : Int
def Nod.ok (n : Nod) : Prop := (0 ≤ n.left ∧ n.left < 18446744073709551616) ∧ (0 ≤ n.right ∧ n.right < 18446744073709551616) ∧ n.key.length ≤ maxLen ∧ n.value.length ≤ maxLen
end Go.Proofs.Ytgjbcahpgkchfaa
