/- Votes, parcels, accounts, views, results .. as arguments, opened. -/
import Derived.Test.YtjjkdmngmopjbaaProg
import Derived.Test.YtjjkdmngmopjbaaOpenB
namespace Go.Proofs.Ytjjkdmngmopjbaa
open Go.ChangeShapes Go.WideShapes Go.ChangeAt Go.RowKit Go.Deep
def voteCells (x : VoteD) : List Value := [.int .i64 x.h, .int .i64 x.r, .int .i64 x.s, .bool x.has, .int .u64 x.b, .int .i64 x.f]
def parcelCells (x : ParcelD) : List Value := [.int .i64 x.k, .int .i64 x.t, .int .i64 x.a]
def accountCells (x : AccountD) : List Value := [.int .i64 x.b, .int .i64 x.f, .int .i64 x.n, .int .i64 x.o, .int .i64 x.l, .int .i64 x.a, .bool x.j]
def resultCells (x : ResultD) : List Value := [.int .i64 x.c, .int .i64 x.u, .int .i64 x.v, .slice x.na x.notes.length x.nc]
def viewCells (x : ViewD) : List Value := [.int .i64 x.c, .int .i64 x.w, .int .i64 x.e, .int .i64 x.h, .int .u64 x.s, .slice x.sa x.seats.length x.sc]
def seatM (_ : Seat) : Nat := 3
def noteM (_ : NoteD) : Nat := 3
def voteM (_ : VoteD) : Nat := 7
def parcelM (_ : ParcelD) : Nat := 4
def accountM (_ : AccountD) : Nat := 8
def guiltM (x : GuiltD) : Nat := voteM x.a + voteM x.b + 1
def resultM (x : ResultD) : Nat := sumL noteM x.notes + 1 + 4
def viewM (x : ViewD) : Nat := sumL seatM x.seats + 1 + 6
section
variable {H : Type} {enc : TypeId × Value → H} {W : World}
theorem cellsB_seat : Try.prog.cellsOf 147 = 2 := by kernel_rfl
def IsSeatB (W : World) (cs : List Value) (x : Seat) : Prop := cs = seatCells x ∧ (True)
set_option maxRecDepth 100000 in
theorem seat_trodB : ∀ fuel cs x, DataW.trod enc Try.prog W 0 (fun _ => true) true fuel 147 cs = some x → ∃ d, IsSeatB W cs d ∧ seatM d ≤ Rows.uptoBulk x.1 := by
  intro fuel cs x h
  obtain ⟨hl, n, xs, hx, hxl, hg⟩ := open_structB Try.underlying147 h
  rw [cellsB_seat] at hl
  match cs, hl, xs, hxl with
  | [c0, c1], _, [y0, y1], _ =>
    have h0 : DataW.trod enc Try.prog W 0 (fun _ => true) true n 3 (([c0, c1].drop 0).take (Try.prog.cellsOf 3)) = some y0 := hg 0 _ rfl
    rw [show Try.prog.cellsOf 3 = 1 by kernel_rfl] at h0
    have h1 : DataW.trod enc Try.prog W 0 (fun _ => true) true n 3 (([c0, c1].drop 1).take (Try.prog.cellsOf 3)) = some y1 := hg 1 _ rfl
    rw [show Try.prog.cellsOf 3 = 1 by kernel_rfl] at h1
    obtain ⟨a0, ⟨e0, g0⟩, m0⟩ := int_trodB _ _ _ h0
    obtain ⟨a1, ⟨e1, g1⟩, m1⟩ := int_trodB _ _ _ h1
    simp at e0 e1
    subst e0
    subst e1
    exact ⟨⟨a0, a1⟩, ⟨rfl, trivial⟩, by rw [hx]; simp only [List.map_cons, List.map_nil, Rows.uptoBulk, Rows.uptoBulkAll, seatM]; omega⟩
set_option maxRecDepth 100000 in
theorem openB_seat {v : Value} {d : DataW H} {p : List MemPlace} (hv : Value.okWide Try.prog W .any 0 147 v) (h : DataW.Trod enc Try.prog W 0 (fun _ => true) true 147 v d p) : ∃ x, v = .agg (seatCells x).toArray ∧ IsSeatB W (seatCells x) x ∧ seatM x ≤ Rows.uptoBulk d := by
  obtain ⟨fuel, hf⟩ := h
  obtain ⟨cs, rfl, hsz⟩ := okWide_struct Try.underlying147 hv
  obtain ⟨x, hx, hm⟩ := seat_trodB _ _ _ hf
  have e : cs.toList = seatCells x := by have := hx.1; simpa [Value.cells] using this
  exact ⟨x, by rw [← e], ⟨rfl, hx.2⟩, hm⟩
set_option maxRecDepth 100000 in
theorem seats_trodB : ∀ fuel cs x, DataW.trod enc Try.prog W 0 (fun _ => true) true fuel 80 cs = some x → ∃ A c l, cs = [.slice A l.length c] ∧ (l.length ≤ c ∧ c ≤ maxLen ∧ Lay 2 seatCells W W.heap.size A l ∧ ∀ y ∈ l, IsSeatB W (seatCells y) y) ∧ sumL seatM l + 1 ≤ Rows.uptoBulk x.1 := by
  intro fuel cs x h
  obtain ⟨l, hl, hm⟩ := slOf_of_trodB seatM (size := 2) (R := IsSeatB W) Try.underlying80 cellsB_seat (by omega) seat_trodB _ _ _ h
  obtain ⟨A, c, e, h1, h2, h3, h4⟩ := hl.flat seatCells (fun _ _ hx => hx.1)
  exact ⟨A, c, l, e, ⟨h1, h2, h3, fun y hy => by obtain ⟨cs, hc⟩ := h4 y hy; exact ⟨rfl, hc.2⟩⟩, hm⟩
set_option maxRecDepth 100000 in
theorem openB_seats {v : Value} {d : DataW H} {p : List MemPlace} (hv : Value.okWide Try.prog W .any 0 80 v) (h : DataW.Trod enc Try.prog W 0 (fun _ => true) true 80 v d p) : ∃ A c l, v = .slice A l.length c ∧ (l.length ≤ c ∧ c ≤ maxLen ∧ Lay 2 seatCells W W.heap.size A l ∧ ∀ y ∈ l, IsSeatB W (seatCells y) y) ∧ sumL seatM l + 1 ≤ Rows.uptoBulk d := by
  obtain ⟨fuel, hf⟩ := h
  obtain ⟨a, len, cap, rfl⟩ := okWide_slice Try.underlying80 hv
  obtain ⟨A, c, l, e, h1, hm⟩ := seats_trodB _ _ _ hf
  simp [Value.cells] at e
  obtain ⟨rfl, rfl, rfl⟩ := e
  exact ⟨_, _, l, rfl, h1, hm⟩
theorem cellsB_vote : Try.prog.cellsOf 25 = 6 := by kernel_rfl
def IsVoteDB (W : World) (cs : List Value) (x : VoteD) : Prop := cs = voteCells x ∧ (x.ok)
set_option maxRecDepth 100000 in
theorem vote_trodB : ∀ fuel cs x, DataW.trod enc Try.prog W 0 (fun _ => true) true fuel 25 cs = some x → ∃ d, IsVoteDB W cs d ∧ voteM d ≤ Rows.uptoBulk x.1 := by
  intro fuel cs x h
  obtain ⟨hl, n, xs, hx, hxl, hg⟩ := open_structB Try.underlying25 h
  rw [cellsB_vote] at hl
  match cs, hl, xs, hxl with
  | [c0, c1, c2, c3, c4, c5], _, [y0, y1, y2, y3, y4, y5], _ =>
    have h0 : DataW.trod enc Try.prog W 0 (fun _ => true) true n 3 (([c0, c1, c2, c3, c4, c5].drop 0).take (Try.prog.cellsOf 3)) = some y0 := hg 0 _ rfl
    rw [show Try.prog.cellsOf 3 = 1 by kernel_rfl] at h0
    have h1 : DataW.trod enc Try.prog W 0 (fun _ => true) true n 3 (([c0, c1, c2, c3, c4, c5].drop 1).take (Try.prog.cellsOf 3)) = some y1 := hg 1 _ rfl
    rw [show Try.prog.cellsOf 3 = 1 by kernel_rfl] at h1
    have h2 : DataW.trod enc Try.prog W 0 (fun _ => true) true n 3 (([c0, c1, c2, c3, c4, c5].drop 2).take (Try.prog.cellsOf 3)) = some y2 := hg 2 _ rfl
    rw [show Try.prog.cellsOf 3 = 1 by kernel_rfl] at h2
    have h3 : DataW.trod enc Try.prog W 0 (fun _ => true) true n 4 (([c0, c1, c2, c3, c4, c5].drop 3).take (Try.prog.cellsOf 4)) = some y3 := hg 3 _ rfl
    rw [show Try.prog.cellsOf 4 = 1 by kernel_rfl] at h3
    have h4 : DataW.trod enc Try.prog W 0 (fun _ => true) true n 23 (([c0, c1, c2, c3, c4, c5].drop 4).take (Try.prog.cellsOf 23)) = some y4 := hg 4 _ rfl
    rw [show Try.prog.cellsOf 23 = 1 by kernel_rfl] at h4
    have h5 : DataW.trod enc Try.prog W 0 (fun _ => true) true n 3 (([c0, c1, c2, c3, c4, c5].drop 5).take (Try.prog.cellsOf 3)) = some y5 := hg 5 _ rfl
    rw [show Try.prog.cellsOf 3 = 1 by kernel_rfl] at h5
    obtain ⟨a0, ⟨e0, g0⟩, m0⟩ := int_trodB _ _ _ h0
    obtain ⟨a1, ⟨e1, g1⟩, m1⟩ := int_trodB _ _ _ h1
    obtain ⟨a2, ⟨e2, g2⟩, m2⟩ := int_trodB _ _ _ h2
    obtain ⟨a3, ⟨e3, g3⟩, m3⟩ := bool_trodB _ _ _ h3
    obtain ⟨a4, ⟨e4, g4⟩, m4⟩ := dig_trodB _ _ _ h4
    obtain ⟨a5, ⟨e5, g5⟩, m5⟩ := int_trodB _ _ _ h5
    simp at e0 e1 e2 e3 e4 e5
    subst e0
    subst e1
    subst e2
    subst e3
    subst e4
    subst e5
    exact ⟨⟨a0, a1, a2, a3, a4, a5⟩, ⟨rfl, g4⟩, by rw [hx]; simp only [List.map_cons, List.map_nil, Rows.uptoBulk, Rows.uptoBulkAll, voteM]; omega⟩
set_option maxRecDepth 100000 in
theorem openB_vote {v : Value} {d : DataW H} {p : List MemPlace} (hv : Value.okWide Try.prog W .any 0 25 v) (h : DataW.Trod enc Try.prog W 0 (fun _ => true) true 25 v d p) : ∃ x, v = .agg (voteCells x).toArray ∧ IsVoteDB W (voteCells x) x ∧ voteM x ≤ Rows.uptoBulk d := by
  obtain ⟨fuel, hf⟩ := h
  obtain ⟨cs, rfl, hsz⟩ := okWide_struct Try.underlying25 hv
  obtain ⟨x, hx, hm⟩ := vote_trodB _ _ _ hf
  have e : cs.toList = voteCells x := by have := hx.1; simpa [Value.cells] using this
  exact ⟨x, by rw [← e], ⟨rfl, hx.2⟩, hm⟩
def IsParcelDB (W : World) (cs : List Value) (x : ParcelD) : Prop := cs = parcelCells x ∧ (True)
def IsAccountDB (W : World) (cs : List Value) (x : AccountD) : Prop := cs = accountCells x ∧ (True)
theorem cellsB_guilt : Try.prog.cellsOf 224 = 12 := by kernel_rfl
def IsGuiltDB (W : World) (cs : List Value) (x : GuiltD) : Prop := cs = GuiltD.cells x ∧ (x.ok)
set_option maxRecDepth 100000 in
theorem guilt_trodB : ∀ fuel cs x, DataW.trod enc Try.prog W 0 (fun _ => true) true fuel 224 cs = some x → ∃ d, IsGuiltDB W cs d ∧ guiltM d ≤ Rows.uptoBulk x.1 := by
  intro fuel cs x h
  obtain ⟨hl, n, xs, hx, hxl, hg⟩ := open_structB Try.underlying224 h
  rw [cellsB_guilt] at hl
  match cs, hl, xs, hxl with
  | [c0, c1, c2, c3, c4, c5, c6, c7, c8, c9, c10, c11], _, [y0, y1], _ =>
    have h0 : DataW.trod enc Try.prog W 0 (fun _ => true) true n 25 (([c0, c1, c2, c3, c4, c5, c6, c7, c8, c9, c10, c11].drop 0).take (Try.prog.cellsOf 25)) = some y0 := hg 0 _ rfl
    rw [show Try.prog.cellsOf 25 = 6 by kernel_rfl] at h0
    have h1 : DataW.trod enc Try.prog W 0 (fun _ => true) true n 25 (([c0, c1, c2, c3, c4, c5, c6, c7, c8, c9, c10, c11].drop 6).take (Try.prog.cellsOf 25)) = some y1 := hg 1 _ rfl
    rw [show Try.prog.cellsOf 25 = 6 by kernel_rfl] at h1
    obtain ⟨a0, ⟨e0, g0⟩, m0⟩ := vote_trodB _ _ _ h0
    obtain ⟨a1, ⟨e1, g1⟩, m1⟩ := vote_trodB _ _ _ h1
    simp [voteCells] at e0 e1
    obtain ⟨rfl, rfl, rfl, rfl, rfl, rfl⟩ := e0
    obtain ⟨rfl, rfl, rfl, rfl, rfl, rfl⟩ := e1
    exact ⟨⟨a0, a1⟩, ⟨rfl, ⟨g0, g1⟩⟩, by rw [hx]; simp only [List.map_cons, List.map_nil, Rows.uptoBulk, Rows.uptoBulkAll, guiltM]; omega⟩
set_option maxRecDepth 100000 in
theorem openB_guilt {v : Value} {d : DataW H} {p : List MemPlace} (hv : Value.okWide Try.prog W .any 0 224 v) (h : DataW.Trod enc Try.prog W 0 (fun _ => true) true 224 v d p) : ∃ x, v = .agg (GuiltD.cells x).toArray ∧ IsGuiltDB W (GuiltD.cells x) x ∧ guiltM x ≤ Rows.uptoBulk d := by
  obtain ⟨fuel, hf⟩ := h
  obtain ⟨cs, rfl, hsz⟩ := okWide_struct Try.underlying224 hv
  obtain ⟨x, hx, hm⟩ := guilt_trodB _ _ _ hf
  have e : cs.toList = GuiltD.cells x := by have := hx.1; simpa [Value.cells] using this
  exact ⟨x, by rw [← e], ⟨rfl, hx.2⟩, hm⟩
def IsNoteDB (W : World) (cs : List Value) (x : NoteD) : Prop := cs = noteCells x ∧ (True)
def IsResultDB (W : World) (cs : List Value) (x : ResultD) : Prop := cs = resultCells x ∧ (x.notes.length ≤ x.nc ∧ x.nc ≤ maxLen ∧ NotesL W W.heap.size x.na x.notes)
theorem cellsB_view : Try.prog.cellsOf 82 = 6 := by kernel_rfl
def IsViewDB (W : World) (cs : List Value) (x : ViewD) : Prop := cs = viewCells x ∧ (x.ok ∧ x.seats.length ≤ x.sc ∧ x.sc ≤ maxLen ∧ SeatsL W W.heap.size x.sa x.seats)
set_option maxRecDepth 100000 in
theorem view_trodB : ∀ fuel cs x, DataW.trod enc Try.prog W 0 (fun _ => true) true fuel 82 cs = some x → ∃ d, IsViewDB W cs d ∧ viewM d ≤ Rows.uptoBulk x.1 := by
  intro fuel cs x h
  obtain ⟨hl, n, xs, hx, hxl, hg⟩ := open_structB Try.underlying82 h
  rw [cellsB_view] at hl
  match cs, hl, xs, hxl with
  | [c0, c1, c2, c3, c4, c5], _, [y0, y1, y2, y3, y4, y5], _ =>
    have h0 : DataW.trod enc Try.prog W 0 (fun _ => true) true n 3 (([c0, c1, c2, c3, c4, c5].drop 0).take (Try.prog.cellsOf 3)) = some y0 := hg 0 _ rfl
    rw [show Try.prog.cellsOf 3 = 1 by kernel_rfl] at h0
    have h1 : DataW.trod enc Try.prog W 0 (fun _ => true) true n 3 (([c0, c1, c2, c3, c4, c5].drop 1).take (Try.prog.cellsOf 3)) = some y1 := hg 1 _ rfl
    rw [show Try.prog.cellsOf 3 = 1 by kernel_rfl] at h1
    have h2 : DataW.trod enc Try.prog W 0 (fun _ => true) true n 3 (([c0, c1, c2, c3, c4, c5].drop 2).take (Try.prog.cellsOf 3)) = some y2 := hg 2 _ rfl
    rw [show Try.prog.cellsOf 3 = 1 by kernel_rfl] at h2
    have h3 : DataW.trod enc Try.prog W 0 (fun _ => true) true n 3 (([c0, c1, c2, c3, c4, c5].drop 3).take (Try.prog.cellsOf 3)) = some y3 := hg 3 _ rfl
    rw [show Try.prog.cellsOf 3 = 1 by kernel_rfl] at h3
    have h4 : DataW.trod enc Try.prog W 0 (fun _ => true) true n 23 (([c0, c1, c2, c3, c4, c5].drop 4).take (Try.prog.cellsOf 23)) = some y4 := hg 4 _ rfl
    rw [show Try.prog.cellsOf 23 = 1 by kernel_rfl] at h4
    have h5 : DataW.trod enc Try.prog W 0 (fun _ => true) true n 80 (([c0, c1, c2, c3, c4, c5].drop 5).take (Try.prog.cellsOf 80)) = some y5 := hg 5 _ rfl
    rw [show Try.prog.cellsOf 80 = 1 by kernel_rfl] at h5
    obtain ⟨a0, ⟨e0, g0⟩, m0⟩ := int_trodB _ _ _ h0
    obtain ⟨a1, ⟨e1, g1⟩, m1⟩ := int_trodB _ _ _ h1
    obtain ⟨a2, ⟨e2, g2⟩, m2⟩ := int_trodB _ _ _ h2
    obtain ⟨a3, ⟨e3, g3⟩, m3⟩ := int_trodB _ _ _ h3
    obtain ⟨a4, ⟨e4, g4⟩, m4⟩ := dig_trodB _ _ _ h4
    obtain ⟨A5, k5, l5, e5, g5, m5⟩ := seats_trodB _ _ _ h5
    simp at e0 e1 e2 e3 e4 e5
    subst e0
    subst e1
    subst e2
    subst e3
    subst e4
    subst e5
    exact ⟨⟨a0, a1, a2, a3, a4, l5, A5, k5⟩, ⟨rfl, ⟨g4, g5.1, g5.2.1, g5.2.2.1⟩⟩, by rw [hx]; simp only [List.map_cons, List.map_nil, Rows.uptoBulk, Rows.uptoBulkAll, viewM]; omega⟩
set_option maxRecDepth 100000 in
theorem openB_view {v : Value} {d : DataW H} {p : List MemPlace} (hv : Value.okWide Try.prog W .any 0 82 v) (h : DataW.Trod enc Try.prog W 0 (fun _ => true) true 82 v d p) : ∃ x, v = .agg (viewCells x).toArray ∧ IsViewDB W (viewCells x) x ∧ viewM x ≤ Rows.uptoBulk d := by
  obtain ⟨fuel, hf⟩ := h
  obtain ⟨cs, rfl, hsz⟩ := okWide_struct Try.underlying82 hv
  obtain ⟨x, hx, hm⟩ := view_trodB _ _ _ hf
  have e : cs.toList = viewCells x := by have := hx.1; simpa [Value.cells] using this
  exact ⟨x, by rw [← e], ⟨rfl, hx.2⟩, hm⟩
end
end Go.Proofs.Ytjjkdmngmopjbaa
