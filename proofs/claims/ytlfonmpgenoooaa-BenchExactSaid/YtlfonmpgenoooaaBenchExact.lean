/- The law BenchExact: of seats of any kind who is chosen, and whether they fit; of a bench the digest, the weights, quorums and who has a seat: the program's answer is the reference's. No condition. -/
import Derived.Test.YtlfonmpgenoooaaG33
import Derived.Test.YtlfonmpgenoooaaRows
import Derived.Test.YtlfonmpgenoooaaG34
import Derived.Test.YtlfonmpgenoooaaG36
set_option linter.unusedSimpArgs false
set_option linter.unusedVariables false
namespace Go.Proofs.Ytlfonmpgenoooaa
open Go.RowKit
namespace benchExact
open Go.ChangeShapes Go.WideShapes Go.ChangeAt Go.RowKit
set_option linter.unusedVariables false
set_option maxRecDepth 100000 in
theorem walk {H : Type} (enc : TypeId × Value → H) : LawWalk enc Try.prog Try.f3 3 := by
 intro W args ds p hA hval hlt hfz; rw [Try.params3] at hA hval; obtain ⟨v0, vs0, d0, ds0, p0, q0, hargs, rfl, rfl, h0, r0⟩ := trodAll_cons hA; obtain ⟨v1, vs1, d1, ds1, p1, q1, rfl, rfl, rfl, h1, r1⟩ := trodAll_cons r0; obtain ⟨v2, vs2, d2, ds2, p2, q2, rfl, rfl, rfl, h2, r2⟩ := trodAll_cons r1; obtain ⟨v3, vs3, d3, ds3, p3, q3, rfl, rfl, rfl, h3, r3⟩ := trodAll_cons r2; obtain ⟨rfl, rfl, rfl⟩ := trodAll_nil r3; obtain rfl : args = #[v0, v1, v2, v3] := by cases args; simp_all
 obtain ⟨a0, rfl, _, _, wa0⟩ := open_int Try.underlying3 (hval 0 _ v0 rfl rfl) h0; obtain ⟨A1, c1, l1, rfl, lc1, cm1, hl1, hw1⟩ := open_seats (hval 1 _ v1 rfl rfl) h1; obtain ⟨A2, c2, l2, rfl, lc2, cm2, hl2, hw2⟩ := open_intsT (hval 2 _ v2 rfl rfl) h2; obtain ⟨a3, rfl, _, _, wa3⟩ := open_int Try.underlying3 (hval 3 _ v3 rfl rfl) h3; exact benchExact_walk a0 l1 A1 c1 l2 A2 c2 a3 W hl1 hw1 (Nat.le_trans lc1 cm1) hl2 (Nat.le_trans lc2 cm2)
set_option maxRecDepth 100000 in
theorem shape (H : Type) (ds : List (DataW H)) (h : ds.length = (Try.f3).params.toList.length) : Rows.benchExactSpec.fn H (ds ++ []) = { results := [DataW.lit (Lit.bool true)], args := ds } := match ds, h with | [_, _, _, _], _ => rfl
set_option maxRecDepth 100000 in
theorem wit (os : Os) (H : Type) (enc : TypeId × Value → H) : ∃ (w : World) (tape : Tape) (i : Input), w.os = os ∧ (w.forCall tape i).Shaped Try.prog ∧ i.vars = [] ∧ Input.okWide Try.prog (w.forCall tape i) .any w.heap.size 3 i ∧ ChangeSpec.pre6 enc Try.prog Try.f3 Rows.benchExactSpec [] false (w.forCall tape i).memory i.args ∧ ({ } : Assume).holds Try.prog (lone (Frame.enter Try.prog 3 i.args .normal) [] (w.forCall tape i)) :=
 ChangeSpec.witness6 (enc := enc) (C := Try.checked) false ⟨#[], #[.int .i64 0, .slice none 0 0, .slice none 0 0, .int .i64 0], []⟩ 8 (by kernel_rfl) (by kernel_rfl) (by kernel_rfl) (by kernel_rfl)
set_option maxRecDepth 100000 in
theorem lifted (os : Os) (started : os.Started) (H : Type) (enc : TypeId × Value → H) : ReturnsInHanded {} Try.checked os 3 .any (ChangeSpec.pre6 enc Try.prog Try.f3 Rows.benchExactSpec [] false) (ChangeSpec.post enc Try.prog Try.f3 Rows.benchExactSpec false true false false) :=
 law_lift (C := Try.checked) (s := Rows.benchExactSpec) (by kernel_rfl) started (by kernel_rfl) Try.func3 (by kernel_rfl) (by kernel_rfl) rfl rfl Try.underlying4 (shape H) (wit os H enc) (walk enc)
set_option maxRecDepth 100000 in
theorem funcAt : Try.pinned.checked.prog.funcNamed Rows.benchExactRow.func = some 3 := by kernel_rfl
set_option maxRecDepth 100000 in
theorem closed : joinedFacts Try.pinned.checked.prog 3 Try.f3 Rows.benchExactSpec Rows.benchExactRow = true := by kernel_rfl
set_option maxRecDepth 100000 in
theorem over : Rows.benchExactRow.holds Try.pinned (OpenSpec.ofChange Rows.benchExactSpec) :=
 OpenClaim.holds_of_wide 3 Try.f3 rfl rfl rfl rfl rfl rfl rfl ⟨rfl, rfl, rfl, rfl, rfl⟩ rfl rfl rfl rfl rfl funcAt Try.func3 closed
  (of_decide_eq_true (by kernel_rfl)) (by unfold Func.isWrapper; first | (rw [if_pos (by decide +kernel)]; kernel_rfl) | (rw [if_neg (by decide +kernel)]; exact ⟨rfl, rfl⟩))
  (fun os started H enc _ => lifted os started H enc)
end benchExact
theorem benchExact_holds : Rows.BenchExactSaid := benchExact.over
#print axioms benchExact_holds
end Go.Proofs.Ytlfonmpgenoooaa
