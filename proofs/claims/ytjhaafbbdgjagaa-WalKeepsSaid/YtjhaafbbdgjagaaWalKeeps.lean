/- WalKeeps: what was synced in the log is there, whole and in order, whatever dies, and what is there was written. No condition. -/
import Derived.Test.YtjhaafbbdgjagaaG43
import Derived.Test.YtjhaafbbdgjagaaG44
import Derived.Test.YtjhaafbbdgjagaaG29
import Derived.Test.YtjhaafbbdgjagaaRows
set_option linter.unusedSimpArgs false
set_option linter.unusedVariables false
namespace Go.Proofs.Ytjhaafbbdgjagaa
open Go.RowKit Vc
theorem walKeeps_walk (A : Option Addr) (c : Nat) (l : List StepD) (W : World) (hr : Rd W W.heap.size 9 A l.length (l.flatMap StepD.cells)) (hx : ∀ x ∈ l, x.ok) :
  Calls Try.prog 3 #[.slice A l.length c] W fun e w' => e = .returned (.bool true) ∧ Below W.heap.size W w' := by
 have h := wk_keeps _ [.one .slc] [.one .bool] Try.func3 (by kernel_rfl) (by kernel_rfl) [.p A, .n l.length, .n c, .g l] W rfl ⟨A, c, l, rfl, hr, hx⟩; refine Calls.mono (show Calls Try.prog 3 #[.slice A l.length c] W _ from h) ?_; rintro e w' ⟨os, _, rfl, rfl, _, hb⟩; exact ⟨rfl, hb⟩
namespace walKeeps
open Go.ChangeShapes Go.WideShapes Go.ChangeAt Go.RowKit
set_option linter.unusedVariables false
set_option maxRecDepth 100000 in
theorem walk {H : Type} (enc : TypeId × Value → H) : LawWalk enc Try.prog Try.f3 3 := by
 intro W args ds p hA hval hlt hfz; rw [Try.params3] at hA hval; obtain ⟨v0, vs0, d0, ds0, p0, q0, hargs, rfl, rfl, h0, r0⟩ := trodAll_cons hA; obtain ⟨rfl, rfl, rfl⟩ := trodAll_nil r0; obtain rfl : args = #[v0] := by cases args; simp_all
 obtain ⟨A0, c0, l0, rfl, hl0, hx0⟩ := open_steps (hval 0 _ v0 rfl rfl) h0; exact walKeeps_walk A0 c0 l0 W hl0 hx0
set_option maxRecDepth 100000 in
theorem shape (H : Type) (ds : List (DataW H)) (h : ds.length = (Try.f3).params.toList.length) : Rows.walKeepsSpec.fn H (ds ++ []) = { results := [DataW.lit (Lit.bool true)], args := ds } := match ds, h with | [_], _ => rfl
set_option maxRecDepth 100000 in
theorem wit (os : Os) (H : Type) (enc : TypeId × Value → H) : ∃ (w : World) (tape : Tape) (i : Input), w.os = os ∧ (w.forCall tape i).Shaped Try.prog ∧ i.vars = [] ∧ Input.okWide Try.prog (w.forCall tape i) .any w.heap.size 3 i ∧ ChangeSpec.pre6 enc Try.prog Try.f3 Rows.walKeepsSpec [] false (w.forCall tape i).memory i.args ∧ ({ } : Assume).holds Try.prog (lone (Frame.enter Try.prog 3 i.args .normal) [] (w.forCall tape i)) :=
 ChangeSpec.witness6 (enc := enc) (C := Try.checked) false ⟨#[], #[.slice none 0 0], []⟩ 8 (by kernel_rfl) (by kernel_rfl) (by kernel_rfl) (by kernel_rfl)
set_option maxRecDepth 100000 in
theorem lifted (os : Os) (started : os.Started) (H : Type) (enc : TypeId × Value → H) : ReturnsInHanded {} Try.checked os 3 .any (ChangeSpec.pre6 enc Try.prog Try.f3 Rows.walKeepsSpec [] false) (ChangeSpec.post enc Try.prog Try.f3 Rows.walKeepsSpec false true false false) :=
 law_lift (C := Try.checked) (s := Rows.walKeepsSpec) (by kernel_rfl) started (by kernel_rfl) Try.func3 (by kernel_rfl) (by kernel_rfl) rfl rfl Try.underlying4 (shape H) (wit os H enc) (walk enc)
set_option maxRecDepth 100000 in
theorem funcAt : Try.pinned.checked.prog.funcNamed Rows.walKeepsRow.func = some 3 := by kernel_rfl
set_option maxRecDepth 100000 in
theorem closed : joinedFacts Try.pinned.checked.prog 3 Try.f3 Rows.walKeepsSpec Rows.walKeepsRow = true := by kernel_rfl
set_option maxRecDepth 100000 in
theorem over : Rows.walKeepsRow.holds Try.pinned (OpenSpec.ofChange Rows.walKeepsSpec) :=
 OpenClaim.holds_of_wide 3 Try.f3 rfl rfl rfl rfl rfl rfl rfl ⟨rfl, rfl, rfl, rfl, rfl⟩ rfl rfl rfl rfl rfl funcAt Try.func3 closed
  (of_decide_eq_true (by kernel_rfl)) (by unfold Func.isWrapper; first | (rw [if_pos (by decide +kernel)]; kernel_rfl) | (rw [if_neg (by decide +kernel)]; exact ⟨rfl, rfl⟩))
  (fun os started H enc _ => lifted os started H enc)
end walKeeps
theorem walKeeps_holds : Rows.WalKeepsSaid := walKeeps.over
#print axioms walKeeps_holds
end Go.Proofs.Ytjhaafbbdgjagaa
