/- WalExact: a script of what happens to a log: the program's log and the answer's tell the same. No condition. -/
import Derived.Test.YtjhaafbbdgjagaaGreatG46
import Derived.Test.YtjhaafbbdgjagaaGreatG30
import Derived.Test.YtjhaafbbdgjagaaGreatRows
set_option linter.unusedSimpArgs false
set_option linter.unusedVariables false
namespace Go.Proofs.YtjhaafbbdgjagaaGreat
open Go.RowKit Vc
theorem walExact_walk (A : Option Addr) (c : Nat) (l : List StepD) (W : World) (hr : Rd W W.heap.size 9 A l.length (l.flatMap StepD.cells)) (hx : ∀ x ∈ l, x.ok) :
  Calls Tryz.prog 5 #[.slice A l.length c] W fun e w' => e = .returned (.bool true) ∧ Below W.heap.size W w' := by
 have h := wx_keeps _ [.one .slc] [.one .bool] Tryz.func5 (by kernel_rfl) (by kernel_rfl) [.p A, .n l.length, .n c, .g l] W rfl ⟨A, c, l, rfl, hr, hx⟩; refine Calls.mono (show Calls Tryz.prog 5 #[.slice A l.length c] W _ from h) ?_; rintro e w' ⟨os, _, rfl, rfl, _, hb⟩; exact ⟨rfl, hb⟩
namespace walExact
open Go.ChangeShapes Go.WideShapes Go.ChangeAt Go.RowKit
set_option linter.unusedVariables false
set_option maxRecDepth 100000 in
theorem walk {H : Type} (enc : TypeId × Value → H) : LawWalk enc Tryz.prog Tryz.f5 5 := by
 intro W args ds p hA hval hlt hfz; rw [Tryz.params5] at hA hval; obtain ⟨v0, vs0, d0, ds0, p0, q0, hargs, rfl, rfl, h0, r0⟩ := trodAll_cons hA; obtain ⟨rfl, rfl, rfl⟩ := trodAll_nil r0; obtain rfl : args = #[v0] := by cases args; simp_all
 obtain ⟨A0, c0, l0, rfl, hl0, hx0⟩ := open_steps (hval 0 _ v0 rfl rfl) h0; exact walExact_walk A0 c0 l0 W hl0 hx0
set_option maxRecDepth 100000 in
theorem shape (H : Type) (ds : List (DataW H)) (h : ds.length = (Tryz.f5).params.toList.length) : Rows.walExactSpec.fn H (ds ++ []) = { results := [DataW.lit (Lit.bool true)], args := ds } := match ds, h with | [_], _ => rfl
set_option maxRecDepth 100000 in
theorem wit (os : Os) (H : Type) (enc : TypeId × Value → H) : ∃ (w : World) (tape : Tape) (i : Input), w.os = os ∧ (w.forCall tape i).Shaped Tryz.prog ∧ i.vars = [] ∧ Input.okWide Tryz.prog (w.forCall tape i) .any w.heap.size 5 i ∧ ChangeSpec.pre6 enc Tryz.prog Tryz.f5 Rows.walExactSpec [] false (w.forCall tape i).memory i.args ∧ ({ } : Assume).holds Tryz.prog (lone (Frame.enter Tryz.prog 5 i.args .normal) [] (w.forCall tape i)) :=
 ChangeSpec.witness6 (enc := enc) (C := Tryz.checked) false ⟨#[], #[.slice none 0 0], []⟩ 8 (by kernel_rfl) (by kernel_rfl) (by kernel_rfl) (by kernel_rfl)
set_option maxRecDepth 100000 in
theorem lifted (os : Os) (started : os.Started) (H : Type) (enc : TypeId × Value → H) : ReturnsInHanded {} Tryz.checked os 5 .any (ChangeSpec.pre6 enc Tryz.prog Tryz.f5 Rows.walExactSpec [] false) (ChangeSpec.post enc Tryz.prog Tryz.f5 Rows.walExactSpec false true false false) :=
 law_lift (C := Tryz.checked) (s := Rows.walExactSpec) (by kernel_rfl) started (by kernel_rfl) Tryz.func5 (by kernel_rfl) (by kernel_rfl) rfl rfl Tryz.underlying4 (shape H) (wit os H enc) (walk enc)
set_option maxRecDepth 100000 in
theorem funcAt : Tryz.pinned.checked.prog.funcNamed Rows.walExactRow.func = some 5 := by kernel_rfl
set_option maxRecDepth 100000 in
theorem closed : joinedFacts Tryz.pinned.checked.prog 5 Tryz.f5 Rows.walExactSpec Rows.walExactRow = true := by kernel_rfl
set_option maxRecDepth 100000 in
theorem over : Rows.walExactRow.holds Tryz.pinned (OpenSpec.ofChange Rows.walExactSpec) :=
 OpenClaim.holds_of_wide 5 Tryz.f5 rfl rfl rfl rfl rfl rfl rfl ⟨rfl, rfl, rfl, rfl, rfl⟩ rfl rfl rfl rfl rfl funcAt Tryz.func5 closed
  (of_decide_eq_true (by kernel_rfl)) (by unfold Func.isWrapper; first | (rw [if_pos (by decide +kernel)]; kernel_rfl) | (rw [if_neg (by decide +kernel)]; exact ⟨rfl, rfl⟩))
  (fun os started H enc _ => lifted os started H enc)
end walExact
theorem walExact_holds : Rows.WalExactSaid := walExact.over
#print axioms walExact_holds
end Go.Proofs.YtjhaafbbdgjagaaGreat
