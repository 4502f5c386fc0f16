/- Of the texts OpenL. -/
import Derived.Test.YtjjkdmngmopjbaaProg
import Derived.Test.YtjjkdmngmopjbaaG38
import Derived.Test.YtjjkdmngmopjbaaG27
set_option linter.unusedSimpArgs false
set_option linter.unusedVariables false
namespace Go.Proofs.Ytjjkdmngmopjbaa
open Go.ChangeShapes Go.WideShapes Go.ChangeAt Go.RowKit Go.Deep
section
variable {H : Type} {enc : TypeId × Value → H} {W : World}
def IsSeatL (W : World) (cs : List Value) (x : Seat) : Prop := cs = seatCells x ∧ ((-9223372036854775808 ≤ x.who ∧ x.who ≤ 9223372036854775807) ∧ -9223372036854775808 ≤ x.weight ∧ x.weight ≤ 9223372036854775807)
set_option maxRecDepth 100000 in
theorem seat_trodL : ∀ fuel cs x, DataW.trod enc Try.prog W 0 (fun _ => true) true fuel 147 cs = some x → ∃ d, IsSeatL W cs d ∧ seatM d ≤ Rows.uptoBulk x.1 := by
  intro fuel cs x h
  obtain ⟨hl, n, xs, hx, hxl, hg⟩ := open_structB Try.underlying147 h
  rw [cellsB_seat] at hl
  match cs, hl, xs, hxl with
  | [c0, c1], _, [y0, y1], _ =>
    have h0 : DataW.trod enc Try.prog W 0 (fun _ => true) true n 3 (([c0, c1].drop 0).take (Try.prog.cellsOf 3)) = some y0 := hg 0 _ rfl
    rw [show Try.prog.cellsOf 3 = 1 by kernel_rfl] at h0
    have h1 : DataW.trod enc Try.prog W 0 (fun _ => true) true n 3 (([c0, c1].drop 1).take (Try.prog.cellsOf 3)) = some y1 := hg 1 _ rfl
    rw [show Try.prog.cellsOf 3 = 1 by kernel_rfl] at h1
    obtain ⟨a0, ⟨e0, g0⟩, m0⟩ := int_trodB _ _ _ h0
    obtain ⟨a1, ⟨e1, g1⟩, m1⟩ := int_trodB _ _ _ h1
    simp at e0 e1
    subst e0
    subst e1
    exact ⟨⟨a0, a1⟩, ⟨rfl, g0, g1⟩, by rw [hx]; simp only [List.map_cons, List.map_nil, Rows.uptoBulk, Rows.uptoBulkAll, seatM]; omega⟩
set_option maxRecDepth 100000 in
theorem seats_trodL : ∀ fuel cs x, DataW.trod enc Try.prog W 0 (fun _ => true) true fuel 80 cs = some x → ∃ A c l, cs = [.slice A l.length c] ∧ (l.length ≤ c ∧ c ≤ maxLen ∧ Lay 2 seatCells W W.heap.size A l ∧ ∀ y ∈ l, IsSeatL W (seatCells y) y) ∧ sumL seatM l + 1 ≤ Rows.uptoBulk x.1 := by
  intro fuel cs x h
  obtain ⟨l, hl, hm⟩ := slOf_of_trodB seatM (size := 2) (R := IsSeatL W) Try.underlying80 cellsB_seat (by omega) seat_trodL _ _ _ h
  obtain ⟨A, c, e, h1, h2, h3, h4⟩ := hl.flat seatCells (fun _ _ hx => hx.1)
  exact ⟨A, c, l, e, ⟨h1, h2, h3, fun y hy => by obtain ⟨cs, hc⟩ := h4 y hy; exact ⟨rfl, hc.2⟩⟩, hm⟩
def IsSightDL (W : World) (cs : List Value) (x : SightD) : Prop := cs = SightD.cells x ∧ (x.held W W.heap.size ∧ Wide x.seats)
set_option maxRecDepth 100000 in
theorem sight_trodL : ∀ fuel cs x, DataW.trod enc Try.prog W 0 (fun _ => true) true fuel 85 cs = some x → ∃ d, IsSightDL W cs d ∧ sightM d ≤ Rows.uptoBulk x.1 := by
  intro fuel cs x h
  obtain ⟨hl, n, xs, hx, hxl, hg⟩ := open_structB Try.underlying85 h
  rw [cellsB_sight] at hl
  match cs, hl, xs, hxl with
  | [c0, c1, c2, c3, c4, c5, c6, c7, c8, c9, c10, c11, c12, c13, c14, c15], _, [y0, y1, y2], _ =>
    have h0 : DataW.trod enc Try.prog W 0 (fun _ => true) true n 27 (([c0, c1, c2, c3, c4, c5, c6, c7, c8, c9, c10, c11, c12, c13, c14, c15].drop 0).take (Try.prog.cellsOf 27)) = some y0 := hg 0 _ rfl
    rw [show Try.prog.cellsOf 27 = 9 by kernel_rfl] at h0
    have h1 : DataW.trod enc Try.prog W 0 (fun _ => true) true n 37 (([c0, c1, c2, c3, c4, c5, c6, c7, c8, c9, c10, c11, c12, c13, c14, c15].drop 9).take (Try.prog.cellsOf 37)) = some y1 := hg 1 _ rfl
    rw [show Try.prog.cellsOf 37 = 6 by kernel_rfl] at h1
    have h2 : DataW.trod enc Try.prog W 0 (fun _ => true) true n 80 (([c0, c1, c2, c3, c4, c5, c6, c7, c8, c9, c10, c11, c12, c13, c14, c15].drop 15).take (Try.prog.cellsOf 80)) = some y2 := hg 2 _ rfl
    rw [show Try.prog.cellsOf 80 = 1 by kernel_rfl] at h2
    obtain ⟨a0, ⟨e0, g0⟩, m0⟩ := header_trodB _ _ _ h0
    obtain ⟨a1, ⟨e1, g1⟩, m1⟩ := cert_trodB _ _ _ h1
    obtain ⟨A2, k2, l2, e2, g2, m2⟩ := seats_trodL _ _ _ h2
    simp [CertD.cells, HeaderD.cells] at e0 e1 e2
    obtain ⟨rfl, rfl, rfl, rfl, rfl, rfl, rfl, rfl, rfl⟩ := e0
    obtain ⟨rfl, rfl, rfl, rfl, rfl, rfl⟩ := e1
    subst e2
    have hsm : sumL seatM l2 = 3 * l2.length := sumL_const 3 l2
    exact ⟨⟨a0, a1, l2, A2, k2⟩, ⟨rfl, ⟨g0, g1, g2.2.2.1, Nat.le_trans g2.1 g2.2.1⟩, fun y hy => (g2.2.2.2 y hy).2⟩, by rw [hx]; simp only [List.map_cons, List.map_nil, Rows.uptoBulk, Rows.uptoBulkAll, sightM]; omega⟩
def IsShownDL (W : World) (cs : List Value) (x : ShownD) : Prop := cs = ShownD.cells x ∧ ((x.s.held W W.heap.size ∧ Wide x.s.seats) ∧ -9223372036854775808 ≤ x.t ∧ x.t ≤ 9223372036854775807)
set_option maxRecDepth 100000 in
theorem shown_trodL : ∀ fuel cs x, DataW.trod enc Try.prog W 0 (fun _ => true) true fuel 87 cs = some x → ∃ d, IsShownDL W cs d ∧ shownM d ≤ Rows.uptoBulk x.1 := by
  intro fuel cs x h
  obtain ⟨hl, n, xs, hx, hxl, hg⟩ := open_structB Try.underlying87 h
  rw [cellsB_shown] at hl
  match cs, hl, xs, hxl with
  | [c0, c1, c2, c3, c4, c5, c6, c7, c8, c9, c10, c11, c12, c13, c14, c15, c16], _, [y0, y1], _ =>
    have h0 : DataW.trod enc Try.prog W 0 (fun _ => true) true n 85 (([c0, c1, c2, c3, c4, c5, c6, c7, c8, c9, c10, c11, c12, c13, c14, c15, c16].drop 0).take (Try.prog.cellsOf 85)) = some y0 := hg 0 _ rfl
    rw [show Try.prog.cellsOf 85 = 16 by kernel_rfl] at h0
    have h1 : DataW.trod enc Try.prog W 0 (fun _ => true) true n 3 (([c0, c1, c2, c3, c4, c5, c6, c7, c8, c9, c10, c11, c12, c13, c14, c15, c16].drop 16).take (Try.prog.cellsOf 3)) = some y1 := hg 1 _ rfl
    rw [show Try.prog.cellsOf 3 = 1 by kernel_rfl] at h1
    obtain ⟨a0, ⟨e0, g0⟩, m0⟩ := sight_trodL _ _ _ h0
    obtain ⟨a1, ⟨e1, g1⟩, m1⟩ := int_trodB _ _ _ h1
    simp [SightD.cells, ShownD.cells] at e0 e1
    obtain ⟨rfl, rfl, rfl, rfl, rfl, rfl, rfl, rfl, rfl, rfl, rfl, rfl, rfl, rfl, rfl, rfl⟩ := e0
    subst e1
    exact ⟨⟨a0, a1⟩, ⟨rfl, ⟨g0, g1⟩⟩, by rw [hx]; simp only [List.map_cons, List.map_nil, Rows.uptoBulk, Rows.uptoBulkAll, shownM]; omega⟩
set_option maxRecDepth 100000 in
theorem showns_trodL : ∀ fuel cs x, DataW.trod enc Try.prog W 0 (fun _ => true) true fuel 83 cs = some x → ∃ A c l, cs = [.slice A l.length c] ∧ (l.length ≤ c ∧ c ≤ maxLen ∧ Lay 17 ShownD.cells W W.heap.size A l ∧ ∀ y ∈ l, IsShownDL W (ShownD.cells y) y) ∧ sumL shownM l + 1 ≤ Rows.uptoBulk x.1 := by
  intro fuel cs x h
  obtain ⟨l, hl, hm⟩ := slOf_of_trodB shownM (size := 17) (R := IsShownDL W) Try.underlying83 cellsB_shown (by omega) shown_trodL _ _ _ h
  obtain ⟨A, c, e, h1, h2, h3, h4⟩ := hl.flat ShownD.cells (fun _ _ hx => hx.1)
  exact ⟨A, c, l, e, ⟨h1, h2, h3, fun y hy => by obtain ⟨cs, hc⟩ := h4 y hy; exact ⟨rfl, hc.2⟩⟩, hm⟩
set_option maxRecDepth 100000 in
theorem openL_showns {v : Value} {d : DataW H} {p : List MemPlace} (hv : Value.okWide Try.prog W .any 0 83 v) (h : DataW.Trod enc Try.prog W 0 (fun _ => true) true 83 v d p) : ∃ A c l, v = .slice A l.length c ∧ (l.length ≤ c ∧ c ≤ maxLen ∧ Lay 17 ShownD.cells W W.heap.size A l ∧ ∀ y ∈ l, IsShownDL W (ShownD.cells y) y) ∧ sumL shownM l + 1 ≤ Rows.uptoBulk d := by
  obtain ⟨fuel, hf⟩ := h
  obtain ⟨a, len, cap, rfl⟩ := okWide_slice Try.underlying83 hv
  obtain ⟨A, c, l, e, h1, hm⟩ := showns_trodL _ _ _ hf
  simp [Value.cells] at e
  obtain ⟨rfl, rfl, rfl⟩ := e
  exact ⟨_, _, l, rfl, h1, hm⟩
def IsViewDL (W : World) (cs : List Value) (x : ViewD) : Prop := cs = viewCells x ∧ (x.ok ∧ x.seats.length ≤ x.sc ∧ x.sc ≤ maxLen ∧ SeatsL W W.heap.size x.sa x.seats ∧ Wide x.seats ∧ (-9223372036854775808 ≤ x.w ∧ x.w ≤ 9223372036854775807) ∧ (-9223372036854775808 ≤ x.e ∧ x.e ≤ 9223372036854775807) ∧ -9223372036854775808 ≤ x.h ∧ x.h ≤ 9223372036854775807)
set_option maxRecDepth 100000 in
theorem view_trodL : ∀ fuel cs x, DataW.trod enc Try.prog W 0 (fun _ => true) true fuel 82 cs = some x → ∃ d, IsViewDL W cs d ∧ viewM d ≤ Rows.uptoBulk x.1 := by
  intro fuel cs x h
  obtain ⟨hl, n, xs, hx, hxl, hg⟩ := open_structB Try.underlying82 h
  rw [cellsB_view] at hl
  match cs, hl, xs, hxl with
  | [c0, c1, c2, c3, c4, c5], _, [y0, y1, y2, y3, y4, y5], _ =>
    have h0 : DataW.trod enc Try.prog W 0 (fun _ => true) true n 3 (([c0, c1, c2, c3, c4, c5].drop 0).take (Try.prog.cellsOf 3)) = some y0 := hg 0 _ rfl
    rw [show Try.prog.cellsOf 3 = 1 by kernel_rfl] at h0
    have h1 : DataW.trod enc Try.prog W 0 (fun _ => true) true n 3 (([c0, c1, c2, c3, c4, c5].drop 1).take (Try.prog.cellsOf 3)) = some y1 := hg 1 _ rfl
    rw [show Try.prog.cellsOf 3 = 1 by kernel_rfl] at h1
    have h2 : DataW.trod enc Try.prog W 0 (fun _ => true) true n 3 (([c0, c1, c2, c3, c4, c5].drop 2).take (Try.prog.cellsOf 3)) = some y2 := hg 2 _ rfl
    rw [show Try.prog.cellsOf 3 = 1 by kernel_rfl] at h2
    have h3 : DataW.trod enc Try.prog W 0 (fun _ => true) true n 3 (([c0, c1, c2, c3, c4, c5].drop 3).take (Try.prog.cellsOf 3)) = some y3 := hg 3 _ rfl
    rw [show Try.prog.cellsOf 3 = 1 by kernel_rfl] at h3
    have h4 : DataW.trod enc Try.prog W 0 (fun _ => true) true n 23 (([c0, c1, c2, c3, c4, c5].drop 4).take (Try.prog.cellsOf 23)) = some y4 := hg 4 _ rfl
    rw [show Try.prog.cellsOf 23 = 1 by kernel_rfl] at h4
    have h5 : DataW.trod enc Try.prog W 0 (fun _ => true) true n 80 (([c0, c1, c2, c3, c4, c5].drop 5).take (Try.prog.cellsOf 80)) = some y5 := hg 5 _ rfl
    rw [show Try.prog.cellsOf 80 = 1 by kernel_rfl] at h5
    obtain ⟨a0, ⟨e0, g0⟩, m0⟩ := int_trodB _ _ _ h0
    obtain ⟨a1, ⟨e1, g1⟩, m1⟩ := int_trodB _ _ _ h1
    obtain ⟨a2, ⟨e2, g2⟩, m2⟩ := int_trodB _ _ _ h2
    obtain ⟨a3, ⟨e3, g3⟩, m3⟩ := int_trodB _ _ _ h3
    obtain ⟨a4, ⟨e4, g4⟩, m4⟩ := dig_trodB _ _ _ h4
    obtain ⟨A5, k5, l5, e5, g5, m5⟩ := seats_trodL _ _ _ h5
    simp at e0 e1 e2 e3 e4 e5
    subst e0
    subst e1
    subst e2
    subst e3
    subst e4
    subst e5
    exact ⟨⟨a0, a1, a2, a3, a4, l5, A5, k5⟩, ⟨rfl, ⟨g4, g5.1, g5.2.1, g5.2.2.1, fun y hy => (g5.2.2.2 y hy).2, g1, g2, g3⟩⟩, by rw [hx]; simp only [List.map_cons, List.map_nil, Rows.uptoBulk, Rows.uptoBulkAll, viewM]; omega⟩
set_option maxRecDepth 100000 in
theorem openL_view {v : Value} {d : DataW H} {p : List MemPlace} (hv : Value.okWide Try.prog W .any 0 82 v) (h : DataW.Trod enc Try.prog W 0 (fun _ => true) true 82 v d p) : ∃ x, v = .agg (viewCells x).toArray ∧ IsViewDL W (viewCells x) x ∧ viewM x ≤ Rows.uptoBulk d := by
  obtain ⟨fuel, hf⟩ := h
  obtain ⟨cs, rfl, hsz⟩ := okWide_struct Try.underlying82 hv
  obtain ⟨x, hx, hm⟩ := view_trodL _ _ _ hf
  have e : cs.toList = viewCells x := by have := hx.1; simpa [Value.cells] using this
  exact ⟨x, by rw [← e], ⟨rfl, hx.2⟩, hm⟩
end
end Go.Proofs.Ytjjkdmngmopjbaa
