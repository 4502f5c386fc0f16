/- TrieOrder: a tree hangs on what is in it alone, whatever the items, and whatever order they came in. -/
import Derived.Test.YtkcnoljjilhpoaaProg
import Derived.Test.YtkcnoljjilhpoaaRows
import Derived.Test.YtkcnoljjilhpoaaFrame
import Derived.Test.YtkcnoljjilhpoaaOpen
import Derived.Test.YtkcnoljjilhpoaaOpenT
import Derived.Test.YtkcnoljjilhpoaaOpenI
import Derived.Test.YtkcnoljjilhpoaaTri19
namespace Go.Proofs.Ytkcnoljjilhpoaa
open Go.RowKit

namespace trieOrder
open Go.ChangeShapes Go.WideShapes Go.ChangeAt Go.RowKit
set_option linter.unusedVariables false
set_option maxRecDepth 100000 in
theorem walk {H : Type} (enc : TypeId × Value → H) : LawWalk enc Try.prog Try.f4 4 := by
  intro W args ds p hA hval hlt hfz
  rw [Try.params4] at hA hval
  obtain ⟨v0, vs0, d0, ds0, p0, q0, hargs, rfl, rfl, h0, r0⟩ := trodAll_cons hA
  obtain ⟨v1, vs1, d1, ds1, p1, q1, rfl, rfl, rfl, h1, r1⟩ := trodAll_cons r0
  obtain ⟨v2, vs2, d2, ds2, p2, q2, rfl, rfl, rfl, h2, r2⟩ := trodAll_cons r1
  obtain ⟨rfl, rfl, rfl⟩ := trodAll_nil r2
  obtain rfl : args = #[v0, v1, v2] := by cases args; simp_all
  obtain ⟨a0, rfl, _, _, wa0⟩ := open_int Try.underlying3 (hval 0 _ v0 rfl rfl) h0
  obtain ⟨A1, c1, l1, rfl, hl1, hx1⟩ := open_items (hval 1 _ v1 rfl rfl) h1
  obtain ⟨A2, c2, l2, rfl, lc2, cm2, hl2, hw2⟩ := open_intsT (hval 2 _ v2 rfl rfl) h2
  exact trieOrder_walk a0 (wf_i64 wa0).1 l1 A1 c1 l2 A2 c2 W hx1 (by unfold maxLen at hl1; omega) hl2 (fun x hx => (hw2 x hx).1)
set_option maxRecDepth 100000 in
theorem shape (H : Type) (ds : List (DataW H)) (h : ds.length = (Try.f4).params.toList.length) : Rows.trieOrderSpec.fn H (ds ++ []) = { results := [DataW.lit (Lit.bool true)], args := ds } := match ds, h with | [_, _, _], _ => rfl
set_option maxRecDepth 100000 in
theorem wit (os : Os) (H : Type) (enc : TypeId × Value → H) : ∃ (w : World) (tape : Tape) (i : Input), w.os = os ∧ (w.forCall tape i).Shaped Try.prog ∧ i.vars = [] ∧ Input.okWide Try.prog (w.forCall tape i) .any w.heap.size 4 i ∧ ChangeSpec.pre6 enc Try.prog Try.f4 Rows.trieOrderSpec [] false (w.forCall tape i).memory i.args ∧ ({ } : Assume).holds Try.prog (lone (Frame.enter Try.prog 4 i.args .normal) [] (w.forCall tape i)) :=
  ChangeSpec.witness6 (enc := enc) (C := Try.checked) false ⟨#[], #[.int .i64 0, .slice none 0 0, .slice none 0 0], []⟩ 8 (by kernel_rfl) (by kernel_rfl) (by kernel_rfl) (by kernel_rfl)
set_option maxRecDepth 100000 in
theorem lifted (os : Os) (started : os.Started) (H : Type) (enc : TypeId × Value → H) : ReturnsInHanded {} Try.checked os 4 .any (ChangeSpec.pre6 enc Try.prog Try.f4 Rows.trieOrderSpec [] false) (ChangeSpec.post enc Try.prog Try.f4 Rows.trieOrderSpec false true false false) :=
  law_lift (C := Try.checked) (s := Rows.trieOrderSpec) (by kernel_rfl) started (by kernel_rfl) Try.func4 (by kernel_rfl) (by kernel_rfl) rfl rfl Try.underlying4 (shape H) (wit os H enc) (walk enc)
set_option maxRecDepth 100000 in
theorem funcAt : Try.pinned.checked.prog.funcNamed Rows.trieOrderRow.func = some 4 := by kernel_rfl
set_option maxRecDepth 100000 in
theorem closed : joinedFacts Try.pinned.checked.prog 4 Try.f4 Rows.trieOrderSpec Rows.trieOrderRow = true := by kernel_rfl
set_option maxRecDepth 100000 in
theorem over : Rows.trieOrderRow.holds Try.pinned (OpenSpec.ofChange Rows.trieOrderSpec) :=
  OpenClaim.holds_of_wide 4 Try.f4 rfl rfl rfl rfl rfl rfl rfl ⟨rfl, rfl, rfl, rfl, rfl⟩ rfl rfl rfl rfl rfl funcAt Try.func4 closed
    (of_decide_eq_true (by kernel_rfl)) (by unfold Func.isWrapper; first | (rw [if_pos (by decide +kernel)]; kernel_rfl) | (rw [if_neg (by decide +kernel)]; exact ⟨rfl, rfl⟩))
    (fun os started H enc _ => lifted os started H enc)
end trieOrder
/-- the statement -/
theorem trieOrder_holds : Rows.TrieOrderSaid := trieOrder.over
#print axioms trieOrder_holds
end Go.Proofs.Ytkcnoljjilhpoaa
