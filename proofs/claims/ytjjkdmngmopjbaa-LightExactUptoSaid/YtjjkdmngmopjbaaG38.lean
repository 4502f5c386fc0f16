/- Of the texts OpenB, OpenW, OpenV, OpenS. -/
import Derived.Test.YtjjkdmngmopjbaaProg
import Derived.Test.YtjjkdmngmopjbaaRows
import Derived.Test.YtjjkdmngmopjbaaG37
import Derived.Test.YtjjkdmngmopjbaaG23
set_option linter.unusedSimpArgs false
set_option linter.unusedVariables false
namespace Go.Proofs.Ytjjkdmngmopjbaa
open Go.ChangeShapes Go.WideShapes Go.ChangeAt Go.RowKit Go.Deep
theorem bulk_one {H : Type} (d : DataW H) : 1 ≤ Rows.uptoBulk d := by
  cases d with
  | lit l => cases l <;> simp [Rows.uptoBulk]
  | nil => simp [Rows.uptoBulk]
  | ptr d => simp [Rows.uptoBulk]
  | slice elems spare => simp [Rows.uptoBulk]
  | agg parts => simp [Rows.uptoBulk]
  | iface t d => simp [Rows.uptoBulk]
  | map entries => simp [Rows.uptoBulk]
  | held h => simp [Rows.uptoBulk]
theorem bulk_le {H α : Type} (ma : α → Nat) : ∀ (l : List α) (ds : List (DataW H)), l.length = ds.length → (∀ i (h : i < l.length) (h' : i < ds.length), ma l[i] ≤ Rows.uptoBulk ds[i]) → sumL ma l ≤ Rows.uptoBulkAll ds
  | [], [], _, _ => by simp [sumL, Rows.uptoBulkAll]
  | [], _ :: _, h, _ => by simp at h
  | _ :: _, [], h, _ => by simp at h
  | x :: l, d :: ds, h, hi => by
    rw [sumL_cons, Rows.uptoBulkAll]
    have h0 := hi 0 (by simp) (by simp)
    have h1 := bulk_le ma l ds (by simpa using h) fun i a b => by have := hi (i + 1) (by simp; omega) (by simp; omega); simpa only [List.getElem_cons_succ] using this
    simp at h0
    omega
theorem sumL_mono {α : Type} (f g : α → Nat) (h : ∀ x, f x ≤ g x) (l : List α) : sumL f l ≤ sumL g l := by
  induction l with
  | nil => simp [sumL]
  | cons x l ih => rw [sumL_cons, sumL_cons]; have := h x; omega
theorem sumL_mul {α : Type} (c : Nat) (f g : α → Nat) (h : ∀ x, f x ≤ c * g x) (l : List α) : sumL f l ≤ c * sumL g l := by
  induction l with
  | nil => simp [sumL]
  | cons x l ih => rw [sumL_cons, sumL_cons, Nat.mul_add]; have := h x; omega
theorem sumL_len {α : Type} (f : α → Nat) (h : ∀ x, 1 ≤ f x) (l : List α) : l.length ≤ sumL f l := by
  induction l with
  | nil => simp [sumL]
  | cons x l ih => rw [sumL_cons, List.length_cons]; have := h x; omega
section
variable {H : Type} {enc : TypeId × Value → H} {P : Program} {W : World}
theorem slOf_of_trodB {α : Type} (ma : α → Nat) {t e : TypeId} {size : Nat} {R : List Value → α → Prop} (ht : P.underlying t = some (.slice e)) (hsz : P.cellsOf e = size) (hpos : 0 < size)
    (hel : ∀ fuel cs x, DataW.trod enc P W 0 (fun _ => true) true fuel e cs = some x → ∃ a, R cs a ∧ ma a ≤ Rows.uptoBulk x.1) :
    ∀ fuel cs x, DataW.trod enc P W 0 (fun _ => true) true fuel t cs = some x → ∃ l, SlOf size R W cs l ∧ sumL ma l + 1 ≤ Rows.uptoBulk x.1 := by
  intro fuel cs x h
  rcases open_slice ht h with ⟨rfl, _⟩ | ⟨a, len, cap, m, n, D, Pl, rfl, _, hlc, hcm, hm, rfl, hi⟩
  · exact ⟨[], ⟨none, 0, rfl, by simp, by simp, [], rfl, fun i h => absurd h (by simp), Rd.nil _ _ _ _⟩, by have := bulk_one x.1; simpa [sumL] using this⟩
  · simp only [if_true] at hm
    subst hm
    have hel' : ∀ i, i < len → ∃ y : List Value × α, y.1.length = size ∧ R y.1 y.2 ∧ (∀ j, j < size → W.cell? ((a.add (i * size)).add j) = y.1[j]?) ∧ ma y.2 ≤ Rows.uptoBulk (D i) := by
      intro i hil
      obtain ⟨cs', hc, ht'⟩ := hi i (by omega)
      obtain ⟨z, hz, hb⟩ := hel _ _ _ ht'
      rw [hsz] at hc
      obtain ⟨_, hcl, hat⟩ := World.cells?_some hc
      exact ⟨(cs', z), hcl, hz, hat, hb⟩
    obtain ⟨L, hL, hp⟩ := choose_list _ len hel'
    refine ⟨L.map (·.2), ⟨some a, m, by rw [List.length_map, hL], by rw [List.length_map, hL]; exact hlc, hcm, L.map (·.1), by simp, ?_, ?_⟩, ?_⟩
    · intro i h1 h2
      simp only [List.getElem_map]
      have := hp i (by simpa using h1)
      exact ⟨this.1, this.2.1⟩
    · have hall : ∀ x ∈ L.map (·.1), x.length = size := by
        intro x hx
        obtain ⟨i, hi', rfl⟩ := List.getElem_of_mem hx
        simp only [List.getElem_map]
        exact (hp i (by simpa using hi')).1
      have hfl := flatten_length size _ hall
      refine ⟨by rw [hfl]; simp, fun hn => ?_⟩
      simp only [List.length_map] at hn
      -- the address is plain
      have h0 := hp 0 hn
      have hc0 := h0.2.2.1 0 hpos
      have hx0 : (L[0].1)[0]? = some ((L[0].1)[0]'(by rw [h0.1]; exact hpos)) := List.getElem?_eq_getElem _
      rw [hx0] at hc0
      have e0 : (a.add (0 * size)).add 0 = a := by simp [Addr.add]
      rw [e0] at hc0
      have hsp := World.cell?_spot hc0
      have hlt := World.block_lt_of_cell? W a hc0
      obtain ⟨b, off, spot⟩ := a
      simp only at hsp
      subst hsp
      refine ⟨b, off, rfl, hlt, fun j u hu => ?_⟩
      have hjl : j < (L.map (·.1)).flatten.length := (List.getElem?_eq_some_iff.1 hu).1
      rw [hfl, List.length_map] at hjl
      have hj : j = j / size * size + j % size := by rw [Nat.mul_comm]; exact (Nat.div_add_mod j size).symm
      have hk : j / size < L.length := by rw [Nat.div_lt_iff_lt_mul hpos]; exact hjl
      have hr : j % size < size := Nat.mod_lt _ hpos
      have hz := (hp _ hk).2.2.1 _ hr
      rw [hj, flatten_at size _ hall _ _ hr] at hu
      rw [List.getElem?_map, List.getElem?_eq_getElem hk] at hu
      simp only [Option.map_some, Option.bind_some] at hu
      rw [hu] at hz
      rw [← hz]
      congr 1
      show (⟨b, off + j, none⟩ : Addr) = ((⟨b, off, none⟩ : Addr).add (j / size * size)).add (j % size)
      rw [addp, addp, Nat.add_assoc, ← hj]
    · have h1 : sumL ma (L.map (·.2)) ≤ Rows.uptoBulkAll ((List.range len).map D) := by
        refine bulk_le ma _ _ (by simp [hL]) fun i hi hj => ?_
        simp only [List.getElem_map, List.getElem_range]
        exact (hp i (by simpa using hi)).2.2.2
      simp only [Rows.uptoBulk]
      omega
theorem open_structB {fuel : Nat} {t : TypeId} {fs : Array Field} {cs : List Value} {x : DataW H × List MemPlace} (hs : P.underlying t = some (.struct fs)) (h : DataW.trod enc P W 0 (fun _ => true) true fuel t cs = some x) :
    cs.length = P.cellsOf t ∧ ∃ (n : Nat) (xs : List (DataW H × List MemPlace)), x.1 = .agg (xs.map (·.1)) ∧ xs.length = fs.size ∧ ∀ (j : Nat) (f : Field), fs[j]? = some f → DataW.trod enc P W 0 (fun _ => true) true n f.type ((cs.drop f.offset).take (P.cellsOf f.type)) = xs[j]? := by
  obtain ⟨xs, n, _, hx, hlen, hyl, hg⟩ := DataW.trod_struct hs h
  exact ⟨hlen, n, xs, by rw [hx], hyl, hg⟩
end
section
variable {H : Type} {enc : TypeId × Value → H} {W : World}
set_option maxRecDepth 100000 in
theorem int_trodB : ∀ fuel cs x, DataW.trod enc Try.prog W 0 (fun _ => true) true fuel 3 cs = some x → ∃ n, IsInt cs n ∧ 1 ≤ Rows.uptoBulk x.1 := by
  intro fuel cs x h
  obtain ⟨n, hn⟩ := int_trod _ _ _ h
  exact ⟨n, hn, bulk_one _⟩
set_option maxRecDepth 100000 in
theorem errno_trodB : ∀ fuel cs x, DataW.trod enc Try.prog W 0 (fun _ => true) true fuel 44 cs = some x → ∃ n, IsInt cs n ∧ 1 ≤ Rows.uptoBulk x.1 := by
  intro fuel cs x h
  obtain ⟨n, rfl, _, hw⟩ := DataW.trod_int Try.underlying44 h
  exact ⟨n, ⟨rfl, wf_i64 hw⟩, bulk_one _⟩
set_option maxRecDepth 100000 in
theorem dig_trodB : ∀ fuel cs x, DataW.trod enc Try.prog W 0 (fun _ => true) true fuel 23 cs = some x → ∃ n, IsDig cs n ∧ 1 ≤ Rows.uptoBulk x.1 := by
  intro fuel cs x h
  obtain ⟨n, hn⟩ := dig_trod _ _ _ h
  exact ⟨n, hn, bulk_one _⟩
def IsBool (cs : List Value) (b : Bool) : Prop := cs = [.bool b] ∧ True
set_option maxRecDepth 100000 in
theorem bool_trodB : ∀ fuel cs x, DataW.trod enc Try.prog W 0 (fun _ => true) true fuel 4 cs = some x → ∃ b, IsBool cs b ∧ 1 ≤ Rows.uptoBulk x.1 := by
  intro fuel cs x h
  obtain ⟨b, rfl, _⟩ := DataW.trod_bool Try.underlying4 h
  exact ⟨b, ⟨rfl, trivial⟩, bulk_one _⟩
set_option maxRecDepth 100000 in
theorem str_trodB : ∀ fuel cs x, DataW.trod enc Try.prog W 0 (fun _ => true) true fuel 9 cs = some x → ∃ s, IsStr cs s ∧ s.length + 1 ≤ Rows.uptoBulk x.1 := by
  intro fuel cs x h
  obtain ⟨s, rfl, rfl, hw⟩ := DataW.trod_string Try.underlying9 h
  exact ⟨s.data.toList, ⟨rfl, hw⟩, by simp [Rows.uptoBulk]⟩
end
end Go.Proofs.Ytjjkdmngmopjbaa

namespace Go.Proofs.Ytjjkdmngmopjbaa
open Go.ChangeShapes Go.WideShapes Go.ChangeAt Go.RowKit Go.Deep
def voteCells (x : VoteD) : List Value := [.int .i64 x.h, .int .i64 x.r, .int .i64 x.s, .bool x.has, .int .u64 x.b, .int .i64 x.f]
def parcelCells (x : ParcelD) : List Value := [.int .i64 x.k, .int .i64 x.t, .int .i64 x.a]
def accountCells (x : AccountD) : List Value := [.int .i64 x.b, .int .i64 x.f, .int .i64 x.n, .int .i64 x.o, .int .i64 x.l, .int .i64 x.a, .bool x.j]
def resultCells (x : ResultD) : List Value := [.int .i64 x.c, .int .i64 x.u, .int .i64 x.v, .slice x.na x.notes.length x.nc]
def viewCells (x : ViewD) : List Value := [.int .i64 x.c, .int .i64 x.w, .int .i64 x.e, .int .i64 x.h, .int .u64 x.s, .slice x.sa x.seats.length x.sc]
def seatM (_ : Seat) : Nat := 3
def noteM (_ : NoteD) : Nat := 3
def voteM (_ : VoteD) : Nat := 7
def parcelM (_ : ParcelD) : Nat := 4
def accountM (_ : AccountD) : Nat := 8
def guiltM (x : GuiltD) : Nat := voteM x.a + voteM x.b + 1
def resultM (x : ResultD) : Nat := sumL noteM x.notes + 1 + 4
def viewM (x : ViewD) : Nat := sumL seatM x.seats + 1 + 6
section
variable {H : Type} {enc : TypeId × Value → H} {W : World}
theorem cellsB_seat : Try.prog.cellsOf 147 = 2 := by kernel_rfl
def IsSeatB (W : World) (cs : List Value) (x : Seat) : Prop := cs = seatCells x ∧ (True)
set_option maxRecDepth 100000 in
theorem seat_trodB : ∀ fuel cs x, DataW.trod enc Try.prog W 0 (fun _ => true) true fuel 147 cs = some x → ∃ d, IsSeatB W cs d ∧ seatM d ≤ Rows.uptoBulk x.1 := by
  intro fuel cs x h
  obtain ⟨hl, n, xs, hx, hxl, hg⟩ := open_structB Try.underlying147 h
  rw [cellsB_seat] at hl
  match cs, hl, xs, hxl with
  | [c0, c1], _, [y0, y1], _ =>
    have h0 : DataW.trod enc Try.prog W 0 (fun _ => true) true n 3 (([c0, c1].drop 0).take (Try.prog.cellsOf 3)) = some y0 := hg 0 _ rfl
    rw [show Try.prog.cellsOf 3 = 1 by kernel_rfl] at h0
    have h1 : DataW.trod enc Try.prog W 0 (fun _ => true) true n 3 (([c0, c1].drop 1).take (Try.prog.cellsOf 3)) = some y1 := hg 1 _ rfl
    rw [show Try.prog.cellsOf 3 = 1 by kernel_rfl] at h1
    obtain ⟨a0, ⟨e0, g0⟩, m0⟩ := int_trodB _ _ _ h0
    obtain ⟨a1, ⟨e1, g1⟩, m1⟩ := int_trodB _ _ _ h1
    simp at e0 e1
    subst e0
    subst e1
    exact ⟨⟨a0, a1⟩, ⟨rfl, trivial⟩, by rw [hx]; simp only [List.map_cons, List.map_nil, Rows.uptoBulk, Rows.uptoBulkAll, seatM]; omega⟩
set_option maxRecDepth 100000 in
theorem openB_seat {v : Value} {d : DataW H} {p : List MemPlace} (hv : Value.okWide Try.prog W .any 0 147 v) (h : DataW.Trod enc Try.prog W 0 (fun _ => true) true 147 v d p) : ∃ x, v = .agg (seatCells x).toArray ∧ IsSeatB W (seatCells x) x ∧ seatM x ≤ Rows.uptoBulk d := by
  obtain ⟨fuel, hf⟩ := h
  obtain ⟨cs, rfl, hsz⟩ := okWide_struct Try.underlying147 hv
  obtain ⟨x, hx, hm⟩ := seat_trodB _ _ _ hf
  have e : cs.toList = seatCells x := by have := hx.1; simpa [Value.cells] using this
  exact ⟨x, by rw [← e], ⟨rfl, hx.2⟩, hm⟩
set_option maxRecDepth 100000 in
theorem seats_trodB : ∀ fuel cs x, DataW.trod enc Try.prog W 0 (fun _ => true) true fuel 80 cs = some x → ∃ A c l, cs = [.slice A l.length c] ∧ (l.length ≤ c ∧ c ≤ maxLen ∧ Lay 2 seatCells W W.heap.size A l ∧ ∀ y ∈ l, IsSeatB W (seatCells y) y) ∧ sumL seatM l + 1 ≤ Rows.uptoBulk x.1 := by
  intro fuel cs x h
  obtain ⟨l, hl, hm⟩ := slOf_of_trodB seatM (size := 2) (R := IsSeatB W) Try.underlying80 cellsB_seat (by omega) seat_trodB _ _ _ h
  obtain ⟨A, c, e, h1, h2, h3, h4⟩ := hl.flat seatCells (fun _ _ hx => hx.1)
  exact ⟨A, c, l, e, ⟨h1, h2, h3, fun y hy => by obtain ⟨cs, hc⟩ := h4 y hy; exact ⟨rfl, hc.2⟩⟩, hm⟩
set_option maxRecDepth 100000 in
theorem openB_seats {v : Value} {d : DataW H} {p : List MemPlace} (hv : Value.okWide Try.prog W .any 0 80 v) (h : DataW.Trod enc Try.prog W 0 (fun _ => true) true 80 v d p) : ∃ A c l, v = .slice A l.length c ∧ (l.length ≤ c ∧ c ≤ maxLen ∧ Lay 2 seatCells W W.heap.size A l ∧ ∀ y ∈ l, IsSeatB W (seatCells y) y) ∧ sumL seatM l + 1 ≤ Rows.uptoBulk d := by
  obtain ⟨fuel, hf⟩ := h
  obtain ⟨a, len, cap, rfl⟩ := okWide_slice Try.underlying80 hv
  obtain ⟨A, c, l, e, h1, hm⟩ := seats_trodB _ _ _ hf
  simp [Value.cells] at e
  obtain ⟨rfl, rfl, rfl⟩ := e
  exact ⟨_, _, l, rfl, h1, hm⟩
theorem cellsB_vote : Try.prog.cellsOf 25 = 6 := by kernel_rfl
def IsVoteDB (W : World) (cs : List Value) (x : VoteD) : Prop := cs = voteCells x ∧ (x.ok)
set_option maxRecDepth 100000 in
theorem vote_trodB : ∀ fuel cs x, DataW.trod enc Try.prog W 0 (fun _ => true) true fuel 25 cs = some x → ∃ d, IsVoteDB W cs d ∧ voteM d ≤ Rows.uptoBulk x.1 := by
  intro fuel cs x h
  obtain ⟨hl, n, xs, hx, hxl, hg⟩ := open_structB Try.underlying25 h
  rw [cellsB_vote] at hl
  match cs, hl, xs, hxl with
  | [c0, c1, c2, c3, c4, c5], _, [y0, y1, y2, y3, y4, y5], _ =>
    have h0 : DataW.trod enc Try.prog W 0 (fun _ => true) true n 3 (([c0, c1, c2, c3, c4, c5].drop 0).take (Try.prog.cellsOf 3)) = some y0 := hg 0 _ rfl
    rw [show Try.prog.cellsOf 3 = 1 by kernel_rfl] at h0
    have h1 : DataW.trod enc Try.prog W 0 (fun _ => true) true n 3 (([c0, c1, c2, c3, c4, c5].drop 1).take (Try.prog.cellsOf 3)) = some y1 := hg 1 _ rfl
    rw [show Try.prog.cellsOf 3 = 1 by kernel_rfl] at h1
    have h2 : DataW.trod enc Try.prog W 0 (fun _ => true) true n 3 (([c0, c1, c2, c3, c4, c5].drop 2).take (Try.prog.cellsOf 3)) = some y2 := hg 2 _ rfl
    rw [show Try.prog.cellsOf 3 = 1 by kernel_rfl] at h2
    have h3 : DataW.trod enc Try.prog W 0 (fun _ => true) true n 4 (([c0, c1, c2, c3, c4, c5].drop 3).take (Try.prog.cellsOf 4)) = some y3 := hg 3 _ rfl
    rw [show Try.prog.cellsOf 4 = 1 by kernel_rfl] at h3
    have h4 : DataW.trod enc Try.prog W 0 (fun _ => true) true n 23 (([c0, c1, c2, c3, c4, c5].drop 4).take (Try.prog.cellsOf 23)) = some y4 := hg 4 _ rfl
    rw [show Try.prog.cellsOf 23 = 1 by kernel_rfl] at h4
    have h5 : DataW.trod enc Try.prog W 0 (fun _ => true) true n 3 (([c0, c1, c2, c3, c4, c5].drop 5).take (Try.prog.cellsOf 3)) = some y5 := hg 5 _ rfl
    rw [show Try.prog.cellsOf 3 = 1 by kernel_rfl] at h5
    obtain ⟨a0, ⟨e0, g0⟩, m0⟩ := int_trodB _ _ _ h0
    obtain ⟨a1, ⟨e1, g1⟩, m1⟩ := int_trodB _ _ _ h1
    obtain ⟨a2, ⟨e2, g2⟩, m2⟩ := int_trodB _ _ _ h2
    obtain ⟨a3, ⟨e3, g3⟩, m3⟩ := bool_trodB _ _ _ h3
    obtain ⟨a4, ⟨e4, g4⟩, m4⟩ := dig_trodB _ _ _ h4
    obtain ⟨a5, ⟨e5, g5⟩, m5⟩ := int_trodB _ _ _ h5
    simp at e0 e1 e2 e3 e4 e5
    subst e0
    subst e1
    subst e2
    subst e3
    subst e4
    subst e5
    exact ⟨⟨a0, a1, a2, a3, a4, a5⟩, ⟨rfl, g4⟩, by rw [hx]; simp only [List.map_cons, List.map_nil, Rows.uptoBulk, Rows.uptoBulkAll, voteM]; omega⟩
set_option maxRecDepth 100000 in
theorem openB_vote {v : Value} {d : DataW H} {p : List MemPlace} (hv : Value.okWide Try.prog W .any 0 25 v) (h : DataW.Trod enc Try.prog W 0 (fun _ => true) true 25 v d p) : ∃ x, v = .agg (voteCells x).toArray ∧ IsVoteDB W (voteCells x) x ∧ voteM x ≤ Rows.uptoBulk d := by
  obtain ⟨fuel, hf⟩ := h
  obtain ⟨cs, rfl, hsz⟩ := okWide_struct Try.underlying25 hv
  obtain ⟨x, hx, hm⟩ := vote_trodB _ _ _ hf
  have e : cs.toList = voteCells x := by have := hx.1; simpa [Value.cells] using this
  exact ⟨x, by rw [← e], ⟨rfl, hx.2⟩, hm⟩
def IsParcelDB (W : World) (cs : List Value) (x : ParcelD) : Prop := cs = parcelCells x ∧ (True)
def IsAccountDB (W : World) (cs : List Value) (x : AccountD) : Prop := cs = accountCells x ∧ (True)
theorem cellsB_guilt : Try.prog.cellsOf 224 = 12 := by kernel_rfl
def IsGuiltDB (W : World) (cs : List Value) (x : GuiltD) : Prop := cs = GuiltD.cells x ∧ (x.ok)
set_option maxRecDepth 100000 in
theorem guilt_trodB : ∀ fuel cs x, DataW.trod enc Try.prog W 0 (fun _ => true) true fuel 224 cs = some x → ∃ d, IsGuiltDB W cs d ∧ guiltM d ≤ Rows.uptoBulk x.1 := by
  intro fuel cs x h
  obtain ⟨hl, n, xs, hx, hxl, hg⟩ := open_structB Try.underlying224 h
  rw [cellsB_guilt] at hl
  match cs, hl, xs, hxl with
  | [c0, c1, c2, c3, c4, c5, c6, c7, c8, c9, c10, c11], _, [y0, y1], _ =>
    have h0 : DataW.trod enc Try.prog W 0 (fun _ => true) true n 25 (([c0, c1, c2, c3, c4, c5, c6, c7, c8, c9, c10, c11].drop 0).take (Try.prog.cellsOf 25)) = some y0 := hg 0 _ rfl
    rw [show Try.prog.cellsOf 25 = 6 by kernel_rfl] at h0
    have h1 : DataW.trod enc Try.prog W 0 (fun _ => true) true n 25 (([c0, c1, c2, c3, c4, c5, c6, c7, c8, c9, c10, c11].drop 6).take (Try.prog.cellsOf 25)) = some y1 := hg 1 _ rfl
    rw [show Try.prog.cellsOf 25 = 6 by kernel_rfl] at h1
    obtain ⟨a0, ⟨e0, g0⟩, m0⟩ := vote_trodB _ _ _ h0
    obtain ⟨a1, ⟨e1, g1⟩, m1⟩ := vote_trodB _ _ _ h1
    simp [voteCells] at e0 e1
    obtain ⟨rfl, rfl, rfl, rfl, rfl, rfl⟩ := e0
    obtain ⟨rfl, rfl, rfl, rfl, rfl, rfl⟩ := e1
    exact ⟨⟨a0, a1⟩, ⟨rfl, ⟨g0, g1⟩⟩, by rw [hx]; simp only [List.map_cons, List.map_nil, Rows.uptoBulk, Rows.uptoBulkAll, guiltM]; omega⟩
set_option maxRecDepth 100000 in
theorem openB_guilt {v : Value} {d : DataW H} {p : List MemPlace} (hv : Value.okWide Try.prog W .any 0 224 v) (h : DataW.Trod enc Try.prog W 0 (fun _ => true) true 224 v d p) : ∃ x, v = .agg (GuiltD.cells x).toArray ∧ IsGuiltDB W (GuiltD.cells x) x ∧ guiltM x ≤ Rows.uptoBulk d := by
  obtain ⟨fuel, hf⟩ := h
  obtain ⟨cs, rfl, hsz⟩ := okWide_struct Try.underlying224 hv
  obtain ⟨x, hx, hm⟩ := guilt_trodB _ _ _ hf
  have e : cs.toList = GuiltD.cells x := by have := hx.1; simpa [Value.cells] using this
  exact ⟨x, by rw [← e], ⟨rfl, hx.2⟩, hm⟩
def IsNoteDB (W : World) (cs : List Value) (x : NoteD) : Prop := cs = noteCells x ∧ (True)
def IsResultDB (W : World) (cs : List Value) (x : ResultD) : Prop := cs = resultCells x ∧ (x.notes.length ≤ x.nc ∧ x.nc ≤ maxLen ∧ NotesL W W.heap.size x.na x.notes)
theorem cellsB_view : Try.prog.cellsOf 82 = 6 := by kernel_rfl
def IsViewDB (W : World) (cs : List Value) (x : ViewD) : Prop := cs = viewCells x ∧ (x.ok ∧ x.seats.length ≤ x.sc ∧ x.sc ≤ maxLen ∧ SeatsL W W.heap.size x.sa x.seats)
set_option maxRecDepth 100000 in
theorem view_trodB : ∀ fuel cs x, DataW.trod enc Try.prog W 0 (fun _ => true) true fuel 82 cs = some x → ∃ d, IsViewDB W cs d ∧ viewM d ≤ Rows.uptoBulk x.1 := by
  intro fuel cs x h
  obtain ⟨hl, n, xs, hx, hxl, hg⟩ := open_structB Try.underlying82 h
  rw [cellsB_view] at hl
  match cs, hl, xs, hxl with
  | [c0, c1, c2, c3, c4, c5], _, [y0, y1, y2, y3, y4, y5], _ =>
    have h0 : DataW.trod enc Try.prog W 0 (fun _ => true) true n 3 (([c0, c1, c2, c3, c4, c5].drop 0).take (Try.prog.cellsOf 3)) = some y0 := hg 0 _ rfl
    rw [show Try.prog.cellsOf 3 = 1 by kernel_rfl] at h0
    have h1 : DataW.trod enc Try.prog W 0 (fun _ => true) true n 3 (([c0, c1, c2, c3, c4, c5].drop 1).take (Try.prog.cellsOf 3)) = some y1 := hg 1 _ rfl
    rw [show Try.prog.cellsOf 3 = 1 by kernel_rfl] at h1
    have h2 : DataW.trod enc Try.prog W 0 (fun _ => true) true n 3 (([c0, c1, c2, c3, c4, c5].drop 2).take (Try.prog.cellsOf 3)) = some y2 := hg 2 _ rfl
    rw [show Try.prog.cellsOf 3 = 1 by kernel_rfl] at h2
    have h3 : DataW.trod enc Try.prog W 0 (fun _ => true) true n 3 (([c0, c1, c2, c3, c4, c5].drop 3).take (Try.prog.cellsOf 3)) = some y3 := hg 3 _ rfl
    rw [show Try.prog.cellsOf 3 = 1 by kernel_rfl] at h3
    have h4 : DataW.trod enc Try.prog W 0 (fun _ => true) true n 23 (([c0, c1, c2, c3, c4, c5].drop 4).take (Try.prog.cellsOf 23)) = some y4 := hg 4 _ rfl
    rw [show Try.prog.cellsOf 23 = 1 by kernel_rfl] at h4
    have h5 : DataW.trod enc Try.prog W 0 (fun _ => true) true n 80 (([c0, c1, c2, c3, c4, c5].drop 5).take (Try.prog.cellsOf 80)) = some y5 := hg 5 _ rfl
    rw [show Try.prog.cellsOf 80 = 1 by kernel_rfl] at h5
    obtain ⟨a0, ⟨e0, g0⟩, m0⟩ := int_trodB _ _ _ h0
    obtain ⟨a1, ⟨e1, g1⟩, m1⟩ := int_trodB _ _ _ h1
    obtain ⟨a2, ⟨e2, g2⟩, m2⟩ := int_trodB _ _ _ h2
    obtain ⟨a3, ⟨e3, g3⟩, m3⟩ := int_trodB _ _ _ h3
    obtain ⟨a4, ⟨e4, g4⟩, m4⟩ := dig_trodB _ _ _ h4
    obtain ⟨A5, k5, l5, e5, g5, m5⟩ := seats_trodB _ _ _ h5
    simp at e0 e1 e2 e3 e4 e5
    subst e0
    subst e1
    subst e2
    subst e3
    subst e4
    subst e5
    exact ⟨⟨a0, a1, a2, a3, a4, l5, A5, k5⟩, ⟨rfl, ⟨g4, g5.1, g5.2.1, g5.2.2.1⟩⟩, by rw [hx]; simp only [List.map_cons, List.map_nil, Rows.uptoBulk, Rows.uptoBulkAll, viewM]; omega⟩
set_option maxRecDepth 100000 in
theorem openB_view {v : Value} {d : DataW H} {p : List MemPlace} (hv : Value.okWide Try.prog W .any 0 82 v) (h : DataW.Trod enc Try.prog W 0 (fun _ => true) true 82 v d p) : ∃ x, v = .agg (viewCells x).toArray ∧ IsViewDB W (viewCells x) x ∧ viewM x ≤ Rows.uptoBulk d := by
  obtain ⟨fuel, hf⟩ := h
  obtain ⟨cs, rfl, hsz⟩ := okWide_struct Try.underlying82 hv
  obtain ⟨x, hx, hm⟩ := view_trodB _ _ _ hf
  have e : cs.toList = viewCells x := by have := hx.1; simpa [Value.cells] using this
  exact ⟨x, by rw [← e], ⟨rfl, hx.2⟩, hm⟩
end
end Go.Proofs.Ytjjkdmngmopjbaa

namespace Go.Proofs.Ytjjkdmngmopjbaa
open Go.ChangeShapes Go.WideShapes Go.ChangeAt Go.RowKit Go.Deep
section
variable {H : Type} {enc : TypeId × Value → H} {W : World}
theorem cellsB_int : Try.prog.cellsOf 3 = 1 := by kernel_rfl
set_option maxRecDepth 100000 in
theorem ints_trodB : ∀ fuel cs x, DataW.trod enc Try.prog W 0 (fun _ => true) true fuel 35 cs = some x → ∃ A c l, cs = [.slice A l.length c] ∧ (l.length ≤ c ∧ c ≤ maxLen ∧ Ints W W.heap.size A l) ∧ l.length + 1 ≤ Rows.uptoBulk x.1 := by
  intro fuel cs x h
  obtain ⟨l, hl, hm⟩ := slOf_of_trodB (fun _ => 1) (size := 1) (R := IsInt) Try.underlying35 cellsB_int (by omega) int_trodB _ _ _ h
  obtain ⟨A, c, e, h1, h2, h3, h4⟩ := hl.flat (fun n => [.int .i64 n]) (fun _ _ hx => hx.1)
  rw [sumL_const, Nat.one_mul] at hm
  refine ⟨A, c, l, e, ⟨h1, h2, ?_⟩, hm⟩
  rw [flatMap_one] at h3
  exact h3
theorem cellsB_header : Try.prog.cellsOf 27 = 9 := by kernel_rfl
def IsHeaderDB (W : World) (cs : List Value) (x : HeaderD) : Prop := cs = HeaderD.cells x ∧ (x.ok)
set_option maxRecDepth 100000 in
theorem header_trodB : ∀ fuel cs x, DataW.trod enc Try.prog W 0 (fun _ => true) true fuel 27 cs = some x → ∃ d, IsHeaderDB W cs d ∧ headerM d ≤ Rows.uptoBulk x.1 := by
  intro fuel cs x h
  obtain ⟨hl, n, xs, hx, hxl, hg⟩ := open_structB Try.underlying27 h
  rw [cellsB_header] at hl
  match cs, hl, xs, hxl with
  | [c0, c1, c2, c3, c4, c5, c6, c7, c8], _, [y0, y1, y2, y3, y4, y5, y6, y7, y8], _ =>
    have h0 : DataW.trod enc Try.prog W 0 (fun _ => true) true n 3 (([c0, c1, c2, c3, c4, c5, c6, c7, c8].drop 0).take (Try.prog.cellsOf 3)) = some y0 := hg 0 _ rfl
    rw [show Try.prog.cellsOf 3 = 1 by kernel_rfl] at h0
    have h1 : DataW.trod enc Try.prog W 0 (fun _ => true) true n 3 (([c0, c1, c2, c3, c4, c5, c6, c7, c8].drop 1).take (Try.prog.cellsOf 3)) = some y1 := hg 1 _ rfl
    rw [show Try.prog.cellsOf 3 = 1 by kernel_rfl] at h1
    have h2 : DataW.trod enc Try.prog W 0 (fun _ => true) true n 23 (([c0, c1, c2, c3, c4, c5, c6, c7, c8].drop 2).take (Try.prog.cellsOf 23)) = some y2 := hg 2 _ rfl
    rw [show Try.prog.cellsOf 23 = 1 by kernel_rfl] at h2
    have h3 : DataW.trod enc Try.prog W 0 (fun _ => true) true n 23 (([c0, c1, c2, c3, c4, c5, c6, c7, c8].drop 3).take (Try.prog.cellsOf 23)) = some y3 := hg 3 _ rfl
    rw [show Try.prog.cellsOf 23 = 1 by kernel_rfl] at h3
    have h4 : DataW.trod enc Try.prog W 0 (fun _ => true) true n 23 (([c0, c1, c2, c3, c4, c5, c6, c7, c8].drop 4).take (Try.prog.cellsOf 23)) = some y4 := hg 4 _ rfl
    rw [show Try.prog.cellsOf 23 = 1 by kernel_rfl] at h4
    have h5 : DataW.trod enc Try.prog W 0 (fun _ => true) true n 23 (([c0, c1, c2, c3, c4, c5, c6, c7, c8].drop 5).take (Try.prog.cellsOf 23)) = some y5 := hg 5 _ rfl
    rw [show Try.prog.cellsOf 23 = 1 by kernel_rfl] at h5
    have h6 : DataW.trod enc Try.prog W 0 (fun _ => true) true n 23 (([c0, c1, c2, c3, c4, c5, c6, c7, c8].drop 6).take (Try.prog.cellsOf 23)) = some y6 := hg 6 _ rfl
    rw [show Try.prog.cellsOf 23 = 1 by kernel_rfl] at h6
    have h7 : DataW.trod enc Try.prog W 0 (fun _ => true) true n 23 (([c0, c1, c2, c3, c4, c5, c6, c7, c8].drop 7).take (Try.prog.cellsOf 23)) = some y7 := hg 7 _ rfl
    rw [show Try.prog.cellsOf 23 = 1 by kernel_rfl] at h7
    have h8 : DataW.trod enc Try.prog W 0 (fun _ => true) true n 3 (([c0, c1, c2, c3, c4, c5, c6, c7, c8].drop 8).take (Try.prog.cellsOf 3)) = some y8 := hg 8 _ rfl
    rw [show Try.prog.cellsOf 3 = 1 by kernel_rfl] at h8
    obtain ⟨a0, ⟨e0, g0⟩, m0⟩ := int_trodB _ _ _ h0
    obtain ⟨a1, ⟨e1, g1⟩, m1⟩ := int_trodB _ _ _ h1
    obtain ⟨a2, ⟨e2, g2⟩, m2⟩ := dig_trodB _ _ _ h2
    obtain ⟨a3, ⟨e3, g3⟩, m3⟩ := dig_trodB _ _ _ h3
    obtain ⟨a4, ⟨e4, g4⟩, m4⟩ := dig_trodB _ _ _ h4
    obtain ⟨a5, ⟨e5, g5⟩, m5⟩ := dig_trodB _ _ _ h5
    obtain ⟨a6, ⟨e6, g6⟩, m6⟩ := dig_trodB _ _ _ h6
    obtain ⟨a7, ⟨e7, g7⟩, m7⟩ := dig_trodB _ _ _ h7
    obtain ⟨a8, ⟨e8, g8⟩, m8⟩ := int_trodB _ _ _ h8
    simp at e0 e1 e2 e3 e4 e5 e6 e7 e8
    subst e0
    subst e1
    subst e2
    subst e3
    subst e4
    subst e5
    subst e6
    subst e7
    subst e8
    exact ⟨⟨a0, a1, a2, a3, a4, a5, a6, a7, a8⟩, ⟨rfl, ⟨g2, g3, g4, g5, g6, g7⟩⟩, by rw [hx]; simp only [List.map_cons, List.map_nil, Rows.uptoBulk, Rows.uptoBulkAll, headerM]; omega⟩
set_option maxRecDepth 100000 in
theorem openB_header {v : Value} {d : DataW H} {p : List MemPlace} (hv : Value.okWide Try.prog W .any 0 27 v) (h : DataW.Trod enc Try.prog W 0 (fun _ => true) true 27 v d p) : ∃ x, v = .agg (HeaderD.cells x).toArray ∧ IsHeaderDB W (HeaderD.cells x) x ∧ headerM x ≤ Rows.uptoBulk d := by
  obtain ⟨fuel, hf⟩ := h
  obtain ⟨cs, rfl, hsz⟩ := okWide_struct Try.underlying27 hv
  obtain ⟨x, hx, hm⟩ := header_trodB _ _ _ hf
  have e : cs.toList = HeaderD.cells x := by have := hx.1; simpa [Value.cells] using this
  exact ⟨x, by rw [← e], ⟨rfl, hx.2⟩, hm⟩
theorem cellsB_cert : Try.prog.cellsOf 37 = 6 := by kernel_rfl
def IsCertDB (W : World) (cs : List Value) (x : CertD) : Prop := cs = CertD.cells x ∧ (x.held W W.heap.size)
set_option maxRecDepth 100000 in
theorem cert_trodB : ∀ fuel cs x, DataW.trod enc Try.prog W 0 (fun _ => true) true fuel 37 cs = some x → ∃ d, IsCertDB W cs d ∧ certM d ≤ Rows.uptoBulk x.1 := by
  intro fuel cs x h
  obtain ⟨hl, n, xs, hx, hxl, hg⟩ := open_structB Try.underlying37 h
  rw [cellsB_cert] at hl
  match cs, hl, xs, hxl with
  | [c0, c1, c2, c3, c4, c5], _, [y0, y1, y2, y3, y4, y5], _ =>
    have h0 : DataW.trod enc Try.prog W 0 (fun _ => true) true n 3 (([c0, c1, c2, c3, c4, c5].drop 0).take (Try.prog.cellsOf 3)) = some y0 := hg 0 _ rfl
    rw [show Try.prog.cellsOf 3 = 1 by kernel_rfl] at h0
    have h1 : DataW.trod enc Try.prog W 0 (fun _ => true) true n 3 (([c0, c1, c2, c3, c4, c5].drop 1).take (Try.prog.cellsOf 3)) = some y1 := hg 1 _ rfl
    rw [show Try.prog.cellsOf 3 = 1 by kernel_rfl] at h1
    have h2 : DataW.trod enc Try.prog W 0 (fun _ => true) true n 3 (([c0, c1, c2, c3, c4, c5].drop 2).take (Try.prog.cellsOf 3)) = some y2 := hg 2 _ rfl
    rw [show Try.prog.cellsOf 3 = 1 by kernel_rfl] at h2
    have h3 : DataW.trod enc Try.prog W 0 (fun _ => true) true n 4 (([c0, c1, c2, c3, c4, c5].drop 3).take (Try.prog.cellsOf 4)) = some y3 := hg 3 _ rfl
    rw [show Try.prog.cellsOf 4 = 1 by kernel_rfl] at h3
    have h4 : DataW.trod enc Try.prog W 0 (fun _ => true) true n 23 (([c0, c1, c2, c3, c4, c5].drop 4).take (Try.prog.cellsOf 23)) = some y4 := hg 4 _ rfl
    rw [show Try.prog.cellsOf 23 = 1 by kernel_rfl] at h4
    have h5 : DataW.trod enc Try.prog W 0 (fun _ => true) true n 35 (([c0, c1, c2, c3, c4, c5].drop 5).take (Try.prog.cellsOf 35)) = some y5 := hg 5 _ rfl
    rw [show Try.prog.cellsOf 35 = 1 by kernel_rfl] at h5
    obtain ⟨a0, ⟨e0, g0⟩, m0⟩ := int_trodB _ _ _ h0
    obtain ⟨a1, ⟨e1, g1⟩, m1⟩ := int_trodB _ _ _ h1
    obtain ⟨a2, ⟨e2, g2⟩, m2⟩ := int_trodB _ _ _ h2
    obtain ⟨a3, ⟨e3, g3⟩, m3⟩ := bool_trodB _ _ _ h3
    obtain ⟨a4, ⟨e4, g4⟩, m4⟩ := dig_trodB _ _ _ h4
    obtain ⟨A5, k5, l5, e5, g5, m5⟩ := ints_trodB _ _ _ h5
    simp at e0 e1 e2 e3 e4 e5
    subst e0
    subst e1
    subst e2
    subst e3
    subst e4
    subst e5
    exact ⟨⟨a0, a1, a2, a3, a4, l5, A5, k5⟩, ⟨rfl, ⟨g4, g5.2.2, Nat.le_trans g5.1 g5.2.1⟩⟩, by rw [hx]; simp only [List.map_cons, List.map_nil, Rows.uptoBulk, Rows.uptoBulkAll, certM]; omega⟩
set_option maxRecDepth 100000 in
theorem openB_cert {v : Value} {d : DataW H} {p : List MemPlace} (hv : Value.okWide Try.prog W .any 0 37 v) (h : DataW.Trod enc Try.prog W 0 (fun _ => true) true 37 v d p) : ∃ x, v = .agg (CertD.cells x).toArray ∧ IsCertDB W (CertD.cells x) x ∧ certM x ≤ Rows.uptoBulk d := by
  obtain ⟨fuel, hf⟩ := h
  obtain ⟨cs, rfl, hsz⟩ := okWide_struct Try.underlying37 hv
  obtain ⟨x, hx, hm⟩ := cert_trodB _ _ _ hf
  have e : cs.toList = CertD.cells x := by have := hx.1; simpa [Value.cells] using this
  exact ⟨x, by rw [← e], ⟨rfl, hx.2⟩, hm⟩
theorem cellsB_turn : Try.prog.cellsOf 141 = 2 := by kernel_rfl
def IsTurnDB (W : World) (cs : List Value) (x : TurnD) : Prop := cs = TurnD.cells x ∧ (x.ok)
set_option maxRecDepth 100000 in
theorem turn_trodB : ∀ fuel cs x, DataW.trod enc Try.prog W 0 (fun _ => true) true fuel 141 cs = some x → ∃ d, IsTurnDB W cs d ∧ turnM d ≤ Rows.uptoBulk x.1 := by
  intro fuel cs x h
  obtain ⟨hl, n, xs, hx, hxl, hg⟩ := open_structB Try.underlying141 h
  rw [cellsB_turn] at hl
  match cs, hl, xs, hxl with
  | [c0, c1], _, [y0, y1], _ =>
    have h0 : DataW.trod enc Try.prog W 0 (fun _ => true) true n 3 (([c0, c1].drop 0).take (Try.prog.cellsOf 3)) = some y0 := hg 0 _ rfl
    rw [show Try.prog.cellsOf 3 = 1 by kernel_rfl] at h0
    have h1 : DataW.trod enc Try.prog W 0 (fun _ => true) true n 23 (([c0, c1].drop 1).take (Try.prog.cellsOf 23)) = some y1 := hg 1 _ rfl
    rw [show Try.prog.cellsOf 23 = 1 by kernel_rfl] at h1
    obtain ⟨a0, ⟨e0, g0⟩, m0⟩ := int_trodB _ _ _ h0
    obtain ⟨a1, ⟨e1, g1⟩, m1⟩ := dig_trodB _ _ _ h1
    simp at e0 e1
    subst e0
    subst e1
    exact ⟨⟨a0, a1⟩, ⟨rfl, g1⟩, by rw [hx]; simp only [List.map_cons, List.map_nil, Rows.uptoBulk, Rows.uptoBulkAll, turnM]; omega⟩
set_option maxRecDepth 100000 in
theorem openB_turn {v : Value} {d : DataW H} {p : List MemPlace} (hv : Value.okWide Try.prog W .any 0 141 v) (h : DataW.Trod enc Try.prog W 0 (fun _ => true) true 141 v d p) : ∃ x, v = .agg (TurnD.cells x).toArray ∧ IsTurnDB W (TurnD.cells x) x ∧ turnM x ≤ Rows.uptoBulk d := by
  obtain ⟨fuel, hf⟩ := h
  obtain ⟨cs, rfl, hsz⟩ := okWide_struct Try.underlying141 hv
  obtain ⟨x, hx, hm⟩ := turn_trodB _ _ _ hf
  have e : cs.toList = TurnD.cells x := by have := hx.1; simpa [Value.cells] using this
  exact ⟨x, by rw [← e], ⟨rfl, hx.2⟩, hm⟩
set_option maxRecDepth 100000 in
theorem turns_trodB : ∀ fuel cs x, DataW.trod enc Try.prog W 0 (fun _ => true) true fuel 68 cs = some x → ∃ A c l, cs = [.slice A l.length c] ∧ (l.length ≤ c ∧ c ≤ maxLen ∧ Lay 2 TurnD.cells W W.heap.size A l ∧ ∀ y ∈ l, IsTurnDB W (TurnD.cells y) y) ∧ sumL turnM l + 1 ≤ Rows.uptoBulk x.1 := by
  intro fuel cs x h
  obtain ⟨l, hl, hm⟩ := slOf_of_trodB turnM (size := 2) (R := IsTurnDB W) Try.underlying68 cellsB_turn (by omega) turn_trodB _ _ _ h
  obtain ⟨A, c, e, h1, h2, h3, h4⟩ := hl.flat TurnD.cells (fun _ _ hx => hx.1)
  exact ⟨A, c, l, e, ⟨h1, h2, h3, fun y hy => by obtain ⟨cs, hc⟩ := h4 y hy; exact ⟨rfl, hc.2⟩⟩, hm⟩
set_option maxRecDepth 100000 in
theorem openB_turns {v : Value} {d : DataW H} {p : List MemPlace} (hv : Value.okWide Try.prog W .any 0 68 v) (h : DataW.Trod enc Try.prog W 0 (fun _ => true) true 68 v d p) : ∃ A c l, v = .slice A l.length c ∧ (l.length ≤ c ∧ c ≤ maxLen ∧ Lay 2 TurnD.cells W W.heap.size A l ∧ ∀ y ∈ l, IsTurnDB W (TurnD.cells y) y) ∧ sumL turnM l + 1 ≤ Rows.uptoBulk d := by
  obtain ⟨fuel, hf⟩ := h
  obtain ⟨a, len, cap, rfl⟩ := okWide_slice Try.underlying68 hv
  obtain ⟨A, c, l, e, h1, hm⟩ := turns_trodB _ _ _ hf
  simp [Value.cells] at e
  obtain ⟨rfl, rfl, rfl⟩ := e
  exact ⟨_, _, l, rfl, h1, hm⟩
theorem cellsB_proof : Try.prog.cellsOf 70 = 4 := by kernel_rfl
def IsProofDB (W : World) (cs : List Value) (x : ProofD) : Prop := cs = ProofD.cells x ∧ (x.held W W.heap.size)
set_option maxRecDepth 100000 in
theorem proof_trodB : ∀ fuel cs x, DataW.trod enc Try.prog W 0 (fun _ => true) true fuel 70 cs = some x → ∃ d, IsProofDB W cs d ∧ proofM d ≤ Rows.uptoBulk x.1 := by
  intro fuel cs x h
  obtain ⟨hl, n, xs, hx, hxl, hg⟩ := open_structB Try.underlying70 h
  rw [cellsB_proof] at hl
  match cs, hl, xs, hxl with
  | [c0, c1, c2, c3], _, [y0, y1, y2, y3], _ =>
    have h0 : DataW.trod enc Try.prog W 0 (fun _ => true) true n 68 (([c0, c1, c2, c3].drop 0).take (Try.prog.cellsOf 68)) = some y0 := hg 0 _ rfl
    rw [show Try.prog.cellsOf 68 = 1 by kernel_rfl] at h0
    have h1 : DataW.trod enc Try.prog W 0 (fun _ => true) true n 4 (([c0, c1, c2, c3].drop 1).take (Try.prog.cellsOf 4)) = some y1 := hg 1 _ rfl
    rw [show Try.prog.cellsOf 4 = 1 by kernel_rfl] at h1
    have h2 : DataW.trod enc Try.prog W 0 (fun _ => true) true n 9 (([c0, c1, c2, c3].drop 2).take (Try.prog.cellsOf 9)) = some y2 := hg 2 _ rfl
    rw [show Try.prog.cellsOf 9 = 1 by kernel_rfl] at h2
    have h3 : DataW.trod enc Try.prog W 0 (fun _ => true) true n 9 (([c0, c1, c2, c3].drop 3).take (Try.prog.cellsOf 9)) = some y3 := hg 3 _ rfl
    rw [show Try.prog.cellsOf 9 = 1 by kernel_rfl] at h3
    obtain ⟨A0, k0, l0, e0, g0, m0⟩ := turns_trodB _ _ _ h0
    obtain ⟨a1, ⟨e1, g1⟩, m1⟩ := bool_trodB _ _ _ h1
    obtain ⟨a2, ⟨e2, g2⟩, m2⟩ := str_trodB _ _ _ h2
    obtain ⟨a3, ⟨e3, g3⟩, m3⟩ := str_trodB _ _ _ h3
    simp at e0 e1 e2 e3
    subst e0
    subst e1
    subst e2
    subst e3
    exact ⟨⟨l0, A0, k0, a1, a2, a3⟩, ⟨rfl, ⟨g0.2.2.1, Nat.le_trans g0.1 g0.2.1, fun y hy => (g0.2.2.2 y hy).2⟩⟩, by rw [hx]; simp only [List.map_cons, List.map_nil, Rows.uptoBulk, Rows.uptoBulkAll, proofM]; omega⟩
set_option maxRecDepth 100000 in
theorem openB_proof {v : Value} {d : DataW H} {p : List MemPlace} (hv : Value.okWide Try.prog W .any 0 70 v) (h : DataW.Trod enc Try.prog W 0 (fun _ => true) true 70 v d p) : ∃ x, v = .agg (ProofD.cells x).toArray ∧ IsProofDB W (ProofD.cells x) x ∧ proofM x ≤ Rows.uptoBulk d := by
  obtain ⟨fuel, hf⟩ := h
  obtain ⟨cs, rfl, hsz⟩ := okWide_struct Try.underlying70 hv
  obtain ⟨x, hx, hm⟩ := proof_trodB _ _ _ hf
  have e : cs.toList = ProofD.cells x := by have := hx.1; simpa [Value.cells] using this
  exact ⟨x, by rw [← e], ⟨rfl, hx.2⟩, hm⟩
set_option maxRecDepth 100000 in
theorem proofs_trodB : ∀ fuel cs x, DataW.trod enc Try.prog W 0 (fun _ => true) true fuel 113 cs = some x → ∃ A c l, cs = [.slice A l.length c] ∧ (l.length ≤ c ∧ c ≤ maxLen ∧ Lay 4 ProofD.cells W W.heap.size A l ∧ ∀ y ∈ l, IsProofDB W (ProofD.cells y) y) ∧ sumL proofM l + 1 ≤ Rows.uptoBulk x.1 := by
  intro fuel cs x h
  obtain ⟨l, hl, hm⟩ := slOf_of_trodB proofM (size := 4) (R := IsProofDB W) Try.underlying113 cellsB_proof (by omega) proof_trodB _ _ _ h
  obtain ⟨A, c, e, h1, h2, h3, h4⟩ := hl.flat ProofD.cells (fun _ _ hx => hx.1)
  exact ⟨A, c, l, e, ⟨h1, h2, h3, fun y hy => by obtain ⟨cs, hc⟩ := h4 y hy; exact ⟨rfl, hc.2⟩⟩, hm⟩
set_option maxRecDepth 100000 in
theorem openB_proofs {v : Value} {d : DataW H} {p : List MemPlace} (hv : Value.okWide Try.prog W .any 0 113 v) (h : DataW.Trod enc Try.prog W 0 (fun _ => true) true 113 v d p) : ∃ A c l, v = .slice A l.length c ∧ (l.length ≤ c ∧ c ≤ maxLen ∧ Lay 4 ProofD.cells W W.heap.size A l ∧ ∀ y ∈ l, IsProofDB W (ProofD.cells y) y) ∧ sumL proofM l + 1 ≤ Rows.uptoBulk d := by
  obtain ⟨fuel, hf⟩ := h
  obtain ⟨a, len, cap, rfl⟩ := okWide_slice Try.underlying113 hv
  obtain ⟨A, c, l, e, h1, hm⟩ := proofs_trodB _ _ _ hf
  simp [Value.cells] at e
  obtain ⟨rfl, rfl, rfl⟩ := e
  exact ⟨_, _, l, rfl, h1, hm⟩
theorem cellsB_sight : Try.prog.cellsOf 85 = 16 := by kernel_rfl
def IsSightDB (W : World) (cs : List Value) (x : SightD) : Prop := cs = SightD.cells x ∧ (x.held W W.heap.size)
set_option maxRecDepth 100000 in
theorem sight_trodB : ∀ fuel cs x, DataW.trod enc Try.prog W 0 (fun _ => true) true fuel 85 cs = some x → ∃ d, IsSightDB W cs d ∧ sightM d ≤ Rows.uptoBulk x.1 := by
  intro fuel cs x h
  obtain ⟨hl, n, xs, hx, hxl, hg⟩ := open_structB Try.underlying85 h
  rw [cellsB_sight] at hl
  match cs, hl, xs, hxl with
  | [c0, c1, c2, c3, c4, c5, c6, c7, c8, c9, c10, c11, c12, c13, c14, c15], _, [y0, y1, y2], _ =>
    have h0 : DataW.trod enc Try.prog W 0 (fun _ => true) true n 27 (([c0, c1, c2, c3, c4, c5, c6, c7, c8, c9, c10, c11, c12, c13, c14, c15].drop 0).take (Try.prog.cellsOf 27)) = some y0 := hg 0 _ rfl
    rw [show Try.prog.cellsOf 27 = 9 by kernel_rfl] at h0
    have h1 : DataW.trod enc Try.prog W 0 (fun _ => true) true n 37 (([c0, c1, c2, c3, c4, c5, c6, c7, c8, c9, c10, c11, c12, c13, c14, c15].drop 9).take (Try.prog.cellsOf 37)) = some y1 := hg 1 _ rfl
    rw [show Try.prog.cellsOf 37 = 6 by kernel_rfl] at h1
    have h2 : DataW.trod enc Try.prog W 0 (fun _ => true) true n 80 (([c0, c1, c2, c3, c4, c5, c6, c7, c8, c9, c10, c11, c12, c13, c14, c15].drop 15).take (Try.prog.cellsOf 80)) = some y2 := hg 2 _ rfl
    rw [show Try.prog.cellsOf 80 = 1 by kernel_rfl] at h2
    obtain ⟨a0, ⟨e0, g0⟩, m0⟩ := header_trodB _ _ _ h0
    obtain ⟨a1, ⟨e1, g1⟩, m1⟩ := cert_trodB _ _ _ h1
    obtain ⟨A2, k2, l2, e2, g2, m2⟩ := seats_trodB _ _ _ h2
    simp [CertD.cells, HeaderD.cells] at e0 e1 e2
    obtain ⟨rfl, rfl, rfl, rfl, rfl, rfl, rfl, rfl, rfl⟩ := e0
    obtain ⟨rfl, rfl, rfl, rfl, rfl, rfl⟩ := e1
    subst e2
    have hsm : sumL seatM l2 = 3 * l2.length := sumL_const 3 l2
    exact ⟨⟨a0, a1, l2, A2, k2⟩, ⟨rfl, ⟨g0, g1, g2.2.2.1, Nat.le_trans g2.1 g2.2.1⟩⟩, by rw [hx]; simp only [List.map_cons, List.map_nil, Rows.uptoBulk, Rows.uptoBulkAll, sightM]; omega⟩
set_option maxRecDepth 100000 in
theorem openB_sight {v : Value} {d : DataW H} {p : List MemPlace} (hv : Value.okWide Try.prog W .any 0 85 v) (h : DataW.Trod enc Try.prog W 0 (fun _ => true) true 85 v d p) : ∃ x, v = .agg (SightD.cells x).toArray ∧ IsSightDB W (SightD.cells x) x ∧ sightM x ≤ Rows.uptoBulk d := by
  obtain ⟨fuel, hf⟩ := h
  obtain ⟨cs, rfl, hsz⟩ := okWide_struct Try.underlying85 hv
  obtain ⟨x, hx, hm⟩ := sight_trodB _ _ _ hf
  have e : cs.toList = SightD.cells x := by have := hx.1; simpa [Value.cells] using this
  exact ⟨x, by rw [← e], ⟨rfl, hx.2⟩, hm⟩
set_option maxRecDepth 100000 in
theorem sights_trodB : ∀ fuel cs x, DataW.trod enc Try.prog W 0 (fun _ => true) true fuel 88 cs = some x → ∃ A c l, cs = [.slice A l.length c] ∧ (l.length ≤ c ∧ c ≤ maxLen ∧ Lay 16 SightD.cells W W.heap.size A l ∧ ∀ y ∈ l, IsSightDB W (SightD.cells y) y) ∧ sumL sightM l + 1 ≤ Rows.uptoBulk x.1 := by
  intro fuel cs x h
  obtain ⟨l, hl, hm⟩ := slOf_of_trodB sightM (size := 16) (R := IsSightDB W) Try.underlying88 cellsB_sight (by omega) sight_trodB _ _ _ h
  obtain ⟨A, c, e, h1, h2, h3, h4⟩ := hl.flat SightD.cells (fun _ _ hx => hx.1)
  exact ⟨A, c, l, e, ⟨h1, h2, h3, fun y hy => by obtain ⟨cs, hc⟩ := h4 y hy; exact ⟨rfl, hc.2⟩⟩, hm⟩
set_option maxRecDepth 100000 in
theorem openB_sights {v : Value} {d : DataW H} {p : List MemPlace} (hv : Value.okWide Try.prog W .any 0 88 v) (h : DataW.Trod enc Try.prog W 0 (fun _ => true) true 88 v d p) : ∃ A c l, v = .slice A l.length c ∧ (l.length ≤ c ∧ c ≤ maxLen ∧ Lay 16 SightD.cells W W.heap.size A l ∧ ∀ y ∈ l, IsSightDB W (SightD.cells y) y) ∧ sumL sightM l + 1 ≤ Rows.uptoBulk d := by
  obtain ⟨fuel, hf⟩ := h
  obtain ⟨a, len, cap, rfl⟩ := okWide_slice Try.underlying88 hv
  obtain ⟨A, c, l, e, h1, hm⟩ := sights_trodB _ _ _ hf
  simp [Value.cells] at e
  obtain ⟨rfl, rfl, rfl⟩ := e
  exact ⟨_, _, l, rfl, h1, hm⟩
theorem cellsB_tx : Try.prog.cellsOf 115 = 11 := by kernel_rfl
def IsTxDB (W : World) (cs : List Value) (x : TxD) : Prop := cs = TxD.cells x ∧ (x.held W W.heap.size)
set_option maxRecDepth 100000 in
theorem tx_trodB : ∀ fuel cs x, DataW.trod enc Try.prog W 0 (fun _ => true) true fuel 115 cs = some x → ∃ d, IsTxDB W cs d ∧ txM d ≤ Rows.uptoBulk x.1 := by
  intro fuel cs x h
  obtain ⟨hl, n, xs, hx, hxl, hg⟩ := open_structB Try.underlying115 h
  rw [cellsB_tx] at hl
  match cs, hl, xs, hxl with
  | [c0, c1, c2, c3, c4, c5, c6, c7, c8, c9, c10], _, [y0, y1, y2, y3, y4, y5, y6, y7, y8, y9, y10], _ =>
    have h0 : DataW.trod enc Try.prog W 0 (fun _ => true) true n 3 (([c0, c1, c2, c3, c4, c5, c6, c7, c8, c9, c10].drop 0).take (Try.prog.cellsOf 3)) = some y0 := hg 0 _ rfl
    rw [show Try.prog.cellsOf 3 = 1 by kernel_rfl] at h0
    have h1 : DataW.trod enc Try.prog W 0 (fun _ => true) true n 3 (([c0, c1, c2, c3, c4, c5, c6, c7, c8, c9, c10].drop 1).take (Try.prog.cellsOf 3)) = some y1 := hg 1 _ rfl
    rw [show Try.prog.cellsOf 3 = 1 by kernel_rfl] at h1
    have h2 : DataW.trod enc Try.prog W 0 (fun _ => true) true n 3 (([c0, c1, c2, c3, c4, c5, c6, c7, c8, c9, c10].drop 2).take (Try.prog.cellsOf 3)) = some y2 := hg 2 _ rfl
    rw [show Try.prog.cellsOf 3 = 1 by kernel_rfl] at h2
    have h3 : DataW.trod enc Try.prog W 0 (fun _ => true) true n 3 (([c0, c1, c2, c3, c4, c5, c6, c7, c8, c9, c10].drop 3).take (Try.prog.cellsOf 3)) = some y3 := hg 3 _ rfl
    rw [show Try.prog.cellsOf 3 = 1 by kernel_rfl] at h3
    have h4 : DataW.trod enc Try.prog W 0 (fun _ => true) true n 3 (([c0, c1, c2, c3, c4, c5, c6, c7, c8, c9, c10].drop 4).take (Try.prog.cellsOf 3)) = some y4 := hg 4 _ rfl
    rw [show Try.prog.cellsOf 3 = 1 by kernel_rfl] at h4
    have h5 : DataW.trod enc Try.prog W 0 (fun _ => true) true n 3 (([c0, c1, c2, c3, c4, c5, c6, c7, c8, c9, c10].drop 5).take (Try.prog.cellsOf 3)) = some y5 := hg 5 _ rfl
    rw [show Try.prog.cellsOf 3 = 1 by kernel_rfl] at h5
    have h6 : DataW.trod enc Try.prog W 0 (fun _ => true) true n 3 (([c0, c1, c2, c3, c4, c5, c6, c7, c8, c9, c10].drop 6).take (Try.prog.cellsOf 3)) = some y6 := hg 6 _ rfl
    rw [show Try.prog.cellsOf 3 = 1 by kernel_rfl] at h6
    have h7 : DataW.trod enc Try.prog W 0 (fun _ => true) true n 9 (([c0, c1, c2, c3, c4, c5, c6, c7, c8, c9, c10].drop 7).take (Try.prog.cellsOf 9)) = some y7 := hg 7 _ rfl
    rw [show Try.prog.cellsOf 9 = 1 by kernel_rfl] at h7
    have h8 : DataW.trod enc Try.prog W 0 (fun _ => true) true n 35 (([c0, c1, c2, c3, c4, c5, c6, c7, c8, c9, c10].drop 8).take (Try.prog.cellsOf 35)) = some y8 := hg 8 _ rfl
    rw [show Try.prog.cellsOf 35 = 1 by kernel_rfl] at h8
    have h9 : DataW.trod enc Try.prog W 0 (fun _ => true) true n 88 (([c0, c1, c2, c3, c4, c5, c6, c7, c8, c9, c10].drop 9).take (Try.prog.cellsOf 88)) = some y9 := hg 9 _ rfl
    rw [show Try.prog.cellsOf 88 = 1 by kernel_rfl] at h9
    have h10 : DataW.trod enc Try.prog W 0 (fun _ => true) true n 113 (([c0, c1, c2, c3, c4, c5, c6, c7, c8, c9, c10].drop 10).take (Try.prog.cellsOf 113)) = some y10 := hg 10 _ rfl
    rw [show Try.prog.cellsOf 113 = 1 by kernel_rfl] at h10
    obtain ⟨a0, ⟨e0, g0⟩, m0⟩ := int_trodB _ _ _ h0
    obtain ⟨a1, ⟨e1, g1⟩, m1⟩ := int_trodB _ _ _ h1
    obtain ⟨a2, ⟨e2, g2⟩, m2⟩ := int_trodB _ _ _ h2
    obtain ⟨a3, ⟨e3, g3⟩, m3⟩ := int_trodB _ _ _ h3
    obtain ⟨a4, ⟨e4, g4⟩, m4⟩ := int_trodB _ _ _ h4
    obtain ⟨a5, ⟨e5, g5⟩, m5⟩ := int_trodB _ _ _ h5
    obtain ⟨a6, ⟨e6, g6⟩, m6⟩ := int_trodB _ _ _ h6
    obtain ⟨a7, ⟨e7, g7⟩, m7⟩ := str_trodB _ _ _ h7
    obtain ⟨A8, k8, l8, e8, g8, m8⟩ := ints_trodB _ _ _ h8
    obtain ⟨A9, k9, l9, e9, g9, m9⟩ := sights_trodB _ _ _ h9
    obtain ⟨A10, k10, l10, e10, g10, m10⟩ := proofs_trodB _ _ _ h10
    simp at e0 e1 e2 e3 e4 e5 e6 e7 e8 e9 e10
    subst e0
    subst e1
    subst e2
    subst e3
    subst e4
    subst e5
    subst e6
    subst e7
    subst e8
    subst e9
    subst e10
    exact ⟨⟨a0, a1, a2, a3, a4, a5, a6, a7, l8, A8, k8, l9, A9, k9, l10, A10, k10⟩, ⟨rfl, ⟨g8.2.2, g9.2.2.1, g10.2.2.1, ⟨Nat.le_trans g8.1 g8.2.1, Nat.le_trans g9.1 g9.2.1, Nat.le_trans g10.1 g10.2.1⟩, fun y hy => (g9.2.2.2 y hy).2, fun y hy => (g10.2.2.2 y hy).2⟩⟩, by rw [hx]; simp only [List.map_cons, List.map_nil, Rows.uptoBulk, Rows.uptoBulkAll, txM]; omega⟩
set_option maxRecDepth 100000 in
theorem openB_tx {v : Value} {d : DataW H} {p : List MemPlace} (hv : Value.okWide Try.prog W .any 0 115 v) (h : DataW.Trod enc Try.prog W 0 (fun _ => true) true 115 v d p) : ∃ x, v = .agg (TxD.cells x).toArray ∧ IsTxDB W (TxD.cells x) x ∧ txM x ≤ Rows.uptoBulk d := by
  obtain ⟨fuel, hf⟩ := h
  obtain ⟨cs, rfl, hsz⟩ := okWide_struct Try.underlying115 hv
  obtain ⟨x, hx, hm⟩ := tx_trodB _ _ _ hf
  have e : cs.toList = TxD.cells x := by have := hx.1; simpa [Value.cells] using this
  exact ⟨x, by rw [← e], ⟨rfl, hx.2⟩, hm⟩
set_option maxRecDepth 100000 in
theorem txs_trodB : ∀ fuel cs x, DataW.trod enc Try.prog W 0 (fun _ => true) true fuel 28 cs = some x → ∃ A c l, cs = [.slice A l.length c] ∧ (l.length ≤ c ∧ c ≤ maxLen ∧ Lay 11 TxD.cells W W.heap.size A l ∧ ∀ y ∈ l, IsTxDB W (TxD.cells y) y) ∧ sumL txM l + 1 ≤ Rows.uptoBulk x.1 := by
  intro fuel cs x h
  obtain ⟨l, hl, hm⟩ := slOf_of_trodB txM (size := 11) (R := IsTxDB W) Try.underlying28 cellsB_tx (by omega) tx_trodB _ _ _ h
  obtain ⟨A, c, e, h1, h2, h3, h4⟩ := hl.flat TxD.cells (fun _ _ hx => hx.1)
  exact ⟨A, c, l, e, ⟨h1, h2, h3, fun y hy => by obtain ⟨cs, hc⟩ := h4 y hy; exact ⟨rfl, hc.2⟩⟩, hm⟩
set_option maxRecDepth 100000 in
theorem openB_txs {v : Value} {d : DataW H} {p : List MemPlace} (hv : Value.okWide Try.prog W .any 0 28 v) (h : DataW.Trod enc Try.prog W 0 (fun _ => true) true 28 v d p) : ∃ A c l, v = .slice A l.length c ∧ (l.length ≤ c ∧ c ≤ maxLen ∧ Lay 11 TxD.cells W W.heap.size A l ∧ ∀ y ∈ l, IsTxDB W (TxD.cells y) y) ∧ sumL txM l + 1 ≤ Rows.uptoBulk d := by
  obtain ⟨fuel, hf⟩ := h
  obtain ⟨a, len, cap, rfl⟩ := okWide_slice Try.underlying28 hv
  obtain ⟨A, c, l, e, h1, hm⟩ := txs_trodB _ _ _ hf
  simp [Value.cells] at e
  obtain ⟨rfl, rfl, rfl⟩ := e
  exact ⟨_, _, l, rfl, h1, hm⟩
end
end Go.Proofs.Ytjjkdmngmopjbaa

namespace Go.Proofs.Ytjjkdmngmopjbaa
open Go.ChangeShapes Go.WideShapes Go.ChangeAt Go.RowKit Go.Deep
structure ShownD where
  s : SightD
  t : Int
def ShownD.cells (x : ShownD) : List Value := SightD.cells x.s ++ [.int .i64 x.t]
def shownM (x : ShownD) : Nat := sightM x.s + 2
section
variable {H : Type} {enc : TypeId × Value → H} {W : World}
theorem cellsB_shown : Try.prog.cellsOf 87 = 17 := by kernel_rfl
def IsShownDB (W : World) (cs : List Value) (x : ShownD) : Prop := cs = ShownD.cells x ∧ (x.s.held W W.heap.size ∧ -9223372036854775808 ≤ x.t ∧ x.t ≤ 9223372036854775807)
set_option maxRecDepth 100000 in
theorem shown_trodB : ∀ fuel cs x, DataW.trod enc Try.prog W 0 (fun _ => true) true fuel 87 cs = some x → ∃ d, IsShownDB W cs d ∧ shownM d ≤ Rows.uptoBulk x.1 := by
  intro fuel cs x h
  obtain ⟨hl, n, xs, hx, hxl, hg⟩ := open_structB Try.underlying87 h
  rw [cellsB_shown] at hl
  match cs, hl, xs, hxl with
  | [c0, c1, c2, c3, c4, c5, c6, c7, c8, c9, c10, c11, c12, c13, c14, c15, c16], _, [y0, y1], _ =>
    have h0 : DataW.trod enc Try.prog W 0 (fun _ => true) true n 85 (([c0, c1, c2, c3, c4, c5, c6, c7, c8, c9, c10, c11, c12, c13, c14, c15, c16].drop 0).take (Try.prog.cellsOf 85)) = some y0 := hg 0 _ rfl
    rw [show Try.prog.cellsOf 85 = 16 by kernel_rfl] at h0
    have h1 : DataW.trod enc Try.prog W 0 (fun _ => true) true n 3 (([c0, c1, c2, c3, c4, c5, c6, c7, c8, c9, c10, c11, c12, c13, c14, c15, c16].drop 16).take (Try.prog.cellsOf 3)) = some y1 := hg 1 _ rfl
    rw [show Try.prog.cellsOf 3 = 1 by kernel_rfl] at h1
    obtain ⟨a0, ⟨e0, g0⟩, m0⟩ := sight_trodB _ _ _ h0
    obtain ⟨a1, ⟨e1, g1⟩, m1⟩ := int_trodB _ _ _ h1
    simp [SightD.cells, ShownD.cells] at e0 e1
    obtain ⟨rfl, rfl, rfl, rfl, rfl, rfl, rfl, rfl, rfl, rfl, rfl, rfl, rfl, rfl, rfl, rfl⟩ := e0
    subst e1
    exact ⟨⟨a0, a1⟩, ⟨rfl, ⟨g0, g1⟩⟩, by rw [hx]; simp only [List.map_cons, List.map_nil, Rows.uptoBulk, Rows.uptoBulkAll, shownM]; omega⟩
set_option maxRecDepth 100000 in
theorem openB_shown {v : Value} {d : DataW H} {p : List MemPlace} (hv : Value.okWide Try.prog W .any 0 87 v) (h : DataW.Trod enc Try.prog W 0 (fun _ => true) true 87 v d p) : ∃ x, v = .agg (ShownD.cells x).toArray ∧ IsShownDB W (ShownD.cells x) x ∧ shownM x ≤ Rows.uptoBulk d := by
  obtain ⟨fuel, hf⟩ := h
  obtain ⟨cs, rfl, hsz⟩ := okWide_struct Try.underlying87 hv
  obtain ⟨x, hx, hm⟩ := shown_trodB _ _ _ hf
  have e : cs.toList = ShownD.cells x := by have := hx.1; simpa [Value.cells] using this
  exact ⟨x, by rw [← e], ⟨rfl, hx.2⟩, hm⟩
set_option maxRecDepth 100000 in
theorem showns_trodB : ∀ fuel cs x, DataW.trod enc Try.prog W 0 (fun _ => true) true fuel 83 cs = some x → ∃ A c l, cs = [.slice A l.length c] ∧ (l.length ≤ c ∧ c ≤ maxLen ∧ Lay 17 ShownD.cells W W.heap.size A l ∧ ∀ y ∈ l, IsShownDB W (ShownD.cells y) y) ∧ sumL shownM l + 1 ≤ Rows.uptoBulk x.1 := by
  intro fuel cs x h
  obtain ⟨l, hl, hm⟩ := slOf_of_trodB shownM (size := 17) (R := IsShownDB W) Try.underlying83 cellsB_shown (by omega) shown_trodB _ _ _ h
  obtain ⟨A, c, e, h1, h2, h3, h4⟩ := hl.flat ShownD.cells (fun _ _ hx => hx.1)
  exact ⟨A, c, l, e, ⟨h1, h2, h3, fun y hy => by obtain ⟨cs, hc⟩ := h4 y hy; exact ⟨rfl, hc.2⟩⟩, hm⟩
set_option maxRecDepth 100000 in
theorem openB_showns {v : Value} {d : DataW H} {p : List MemPlace} (hv : Value.okWide Try.prog W .any 0 83 v) (h : DataW.Trod enc Try.prog W 0 (fun _ => true) true 83 v d p) : ∃ A c l, v = .slice A l.length c ∧ (l.length ≤ c ∧ c ≤ maxLen ∧ Lay 17 ShownD.cells W W.heap.size A l ∧ ∀ y ∈ l, IsShownDB W (ShownD.cells y) y) ∧ sumL shownM l + 1 ≤ Rows.uptoBulk d := by
  obtain ⟨fuel, hf⟩ := h
  obtain ⟨a, len, cap, rfl⟩ := okWide_slice Try.underlying83 hv
  obtain ⟨A, c, l, e, h1, hm⟩ := showns_trodB _ _ _ hf
  simp [Value.cells] at e
  obtain ⟨rfl, rfl, rfl⟩ := e
  exact ⟨_, _, l, rfl, h1, hm⟩
end
end Go.Proofs.Ytjjkdmngmopjbaa

