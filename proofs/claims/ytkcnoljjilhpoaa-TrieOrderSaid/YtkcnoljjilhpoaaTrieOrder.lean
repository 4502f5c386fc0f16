/- TrieOrder: a tree hangs on what is in it alone, whatever the items, and whatever order they came in. -/
import Derived.Test.YtkcnoljjilhpoaaProg
import Derived.Test.YtkcnoljjilhpoaaRows
import Derived.Test.YtkcnoljjilhpoaaFrame
import Derived.Test.YtkcnoljjilhpoaaOpen
import Derived.Test.YtkcnoljjilhpoaaOpenT
import Derived.Test.YtkcnoljjilhpoaaOpenI
import Derived.Test.YtkcnoljjilhpoaaTri19
namespace Go.Proofs.Ytkcnoljjilhpoaa
open Go.RowKit

namespace trieOrder
open Go.ChangeShapes Go.WideShapes Go.ChangeAt Go.RowKit
set_option linter.unusedVariables false
set_option maxRecDepth 100000 in
theorem shape (H : Type) (ds : List (DataW H)) (h : ds.length = (Try.f4).params.toList.length) : Rows.trieOrderSpec.fn H (ds ++ []) = { results := [DataW.lit (Lit.bool true)], args := ds } := match ds, h with | [_, _, _], _ => rfl
set_option maxRecDepth 100000 in
theorem wit (os : Os) (H : Type) (enc : TypeId × Value → H) : ∃ (w : World) (tape : Tape) (i : Input), w.os = os ∧ (w.forCall tape i).Shaped Try.prog ∧ i.vars = [] ∧ Input.okWide Try.prog (w.forCall tape i) .any w.heap.size 4 i ∧ ChangeSpec.pre6 enc Try.prog Try.f4 Rows.trieOrderSpec [] false (w.forCall tape i).memory i.args ∧ ({ } : Assume).holds Try.prog (lone (Frame.enter Try.prog 4 i.args .normal) [] (w.forCall tape i)) :=
  ChangeSpec.witness6 (enc := enc) (C := Try.checked) false ⟨#[], #[.int .i64 0, .slice none 0 0, .slice none 0 0], []⟩ 8 (by kernel_rfl) (by kernel_rfl) (by kernel_rfl) (by kernel_rfl)
set_option maxRecDepth 100000 in
theorem funcAt : Try.pinned.checked.prog.funcNamed Rows.trieOrderRow.func = some 4 := by kernel_rfl
set_option maxRecDepth 100000 in
theorem closed : joinedFacts Try.pinned.checked.prog 4 Try.f4 Rows.trieOrderSpec Rows.trieOrderRow = true := by kernel_rfl
end trieOrder
/-- the statement -/
theorem trieOrder_holds : Rows.TrieOrderSaid := trieOrder.over
#print axioms trieOrder_holds
end Go.Proofs.Ytkcnoljjilhpoaa
