/- Of the texts OpenK. -/
import Derived.Test.YtjhaafbbdgjagaaProg
import Derived.Test.YtjhaafbbdgjagaaG35
import Derived.Test.YtjhaafbbdgjagaaG42
set_option linter.unusedSimpArgs false
set_option linter.unusedVariables false
namespace Go.Proofs.Ytjhaafbbdgjagaa
open Go.ChangeShapes Go.WideShapes Go.ChangeAt Go.RowKit Go.Deep
section
variable {H : Type} {enc : TypeId × Value → H} {W : World}
def IsVoteK (cs : List Value) (x : VoteD) : Prop := cs = [.int .i64 x.h, .int .i64 x.r, .int .i64 x.s, .bool x.has, .int .u64 x.b, .int .i64 x.f] ∧ Iw x.h ∧ x.ok
theorem cellsK_vote : Try.prog.cellsOf 29 = 6 := by kernel_rfl
theorem cellsK_step : Try.prog.cellsOf 31 = 9 := by kernel_rfl
set_option maxRecDepth 100000 in
theorem vote_trodK : ∀ fuel cs x, DataW.trod enc Try.prog W 0 (fun _ => true) true fuel 29 cs = some x → ∃ d, IsVoteK cs d := by
 intro fuel cs x h; obtain ⟨hl, n, xs, hx, hxl, hg⟩ := open_structB Try.underlying29 h; rw [cellsK_vote] at hl
 match cs, hl, xs, hxl with
 | [c0, c1, c2, c3, c4, c5], _, [y0, y1, y2, y3, y4, y5], _ =>
  have h0 : DataW.trod enc Try.prog W 0 (fun _ => true) true n 3 (([c0, c1, c2, c3, c4, c5].drop 0).take (Try.prog.cellsOf 3)) = some y0 := hg 0 _ rfl; rw [show Try.prog.cellsOf 3 = 1 by kernel_rfl] at h0; have h1 : DataW.trod enc Try.prog W 0 (fun _ => true) true n 3 (([c0, c1, c2, c3, c4, c5].drop 1).take (Try.prog.cellsOf 3)) = some y1 := hg 1 _ rfl; rw [show Try.prog.cellsOf 3 = 1 by kernel_rfl] at h1; have h2 : DataW.trod enc Try.prog W 0 (fun _ => true) true n 3 (([c0, c1, c2, c3, c4, c5].drop 2).take (Try.prog.cellsOf 3)) = some y2 := hg 2 _ rfl; rw [show Try.prog.cellsOf 3 = 1 by kernel_rfl] at h2; have h3 : DataW.trod enc Try.prog W 0 (fun _ => true) true n 4 (([c0, c1, c2, c3, c4, c5].drop 3).take (Try.prog.cellsOf 4)) = some y3 := hg 3 _ rfl; rw [show Try.prog.cellsOf 4 = 1 by kernel_rfl] at h3; have h4 : DataW.trod enc Try.prog W 0 (fun _ => true) true n 27 (([c0, c1, c2, c3, c4, c5].drop 4).take (Try.prog.cellsOf 27)) = some y4 := hg 4 _ rfl; rw [show Try.prog.cellsOf 27 = 1 by kernel_rfl] at h4; have h5 : DataW.trod enc Try.prog W 0 (fun _ => true) true n 3 (([c0, c1, c2, c3, c4, c5].drop 5).take (Try.prog.cellsOf 3)) = some y5 := hg 5 _ rfl; rw [show Try.prog.cellsOf 3 = 1 by kernel_rfl] at h5; obtain ⟨a0, ⟨e0, g0⟩, _⟩ := int_trodB _ _ _ h0; obtain ⟨a1, ⟨e1, g1⟩, _⟩ := int_trodB _ _ _ h1; obtain ⟨a2, ⟨e2, g2⟩, _⟩ := int_trodB _ _ _ h2; obtain ⟨a3, ⟨e3, g3⟩, _⟩ := bool_trodB _ _ _ h3; obtain ⟨a4, ⟨e4, g4⟩, _⟩ := dig_trodB _ _ _ h4; obtain ⟨a5, ⟨e5, g5⟩, _⟩ := int_trodB _ _ _ h5; simp at e0 e1 e2 e3 e4 e5; subst e0; subst e1; subst e2; subst e3; subst e4; subst e5; exact ⟨⟨a0, a1, a2, a3, a4, a5⟩, rfl, g0, g4⟩
def IsStep (cs : List Value) (x : StepD) : Prop := cs = StepD.cells x ∧ x.ok
set_option maxRecDepth 100000 in
theorem step_trodK : ∀ fuel cs x, DataW.trod enc Try.prog W 0 (fun _ => true) true fuel 31 cs = some x → ∃ d, IsStep cs d := by
 intro fuel cs x h; obtain ⟨hl, n, xs, hx, hxl, hg⟩ := open_structB Try.underlying31 h; rw [cellsK_step] at hl
 match cs, hl, xs, hxl with
 | [c0, c1, c2, c3, c4, c5, c6, c7, c8], _, [y0, y1, y2, y3], _ =>
  have h0 : DataW.trod enc Try.prog W 0 (fun _ => true) true n 3 (([c0, c1, c2, c3, c4, c5, c6, c7, c8].drop 0).take (Try.prog.cellsOf 3)) = some y0 := hg 0 _ rfl; rw [show Try.prog.cellsOf 3 = 1 by kernel_rfl] at h0; have h1 : DataW.trod enc Try.prog W 0 (fun _ => true) true n 3 (([c0, c1, c2, c3, c4, c5, c6, c7, c8].drop 1).take (Try.prog.cellsOf 3)) = some y1 := hg 1 _ rfl; rw [show Try.prog.cellsOf 3 = 1 by kernel_rfl] at h1; have h2 : DataW.trod enc Try.prog W 0 (fun _ => true) true n 3 (([c0, c1, c2, c3, c4, c5, c6, c7, c8].drop 2).take (Try.prog.cellsOf 3)) = some y2 := hg 2 _ rfl; rw [show Try.prog.cellsOf 3 = 1 by kernel_rfl] at h2; have h3 : DataW.trod enc Try.prog W 0 (fun _ => true) true n 29 (([c0, c1, c2, c3, c4, c5, c6, c7, c8].drop 3).take (Try.prog.cellsOf 29)) = some y3 := hg 3 _ rfl; rw [show Try.prog.cellsOf 29 = 6 by kernel_rfl] at h3; obtain ⟨a0, ⟨e0, g0⟩, _⟩ := int_trodB _ _ _ h0; obtain ⟨a1, ⟨e1, g1⟩, _⟩ := int_trodB _ _ _ h1; obtain ⟨a2, ⟨e2, g2⟩, _⟩ := int_trodB _ _ _ h2; obtain ⟨v, e3, g3, g4⟩ := vote_trodK _ _ _ h3; simp at e0 e1 e2 e3; subst e0; subst e1; subst e2; obtain ⟨rfl, rfl, rfl, rfl, rfl, rfl⟩ := e3; exact ⟨⟨a0, a1, a2, v⟩, rfl, g0, g1, g2, g3, g4⟩
set_option maxRecDepth 100000 in
theorem open_steps {v : Value} {d : DataW H} {p : List MemPlace} (hv : Value.okWide Try.prog W .any 0 22 v) (h : DataW.Trod enc Try.prog W 0 (fun _ => true) true 22 v d p) :
  ∃ A c, ∃ l : List StepD, v = .slice A l.length c ∧ Rd W W.heap.size 9 A l.length (l.flatMap StepD.cells) ∧ ∀ x ∈ l, x.ok := by
 obtain ⟨fuel, hf⟩ := h; obtain ⟨a, len, cap, rfl⟩ := okWide_slice Try.underlying22 hv; obtain ⟨l, hl⟩ := slOf_of_trod (size := 9) (R := IsStep) Try.underlying22 cellsK_step (by omega) step_trodK _ _ _ hf; obtain ⟨A, c, e, _, _, h3, h4⟩ := hl.flat StepD.cells (fun _ _ hx => hx.1); simp [Value.cells] at e; obtain ⟨rfl, rfl, rfl⟩ := e; exact ⟨_, _, l, rfl, h3, fun y hy => by obtain ⟨cs, hc⟩ := h4 y hy; exact hc.2⟩
end
end Go.Proofs.Ytjhaafbbdgjagaa
