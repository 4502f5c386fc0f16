/- Of the texts OpenT. -/
import Derived.Test.YtlfonmpgenoooaaProg
import Derived.Test.YtlfonmpgenoooaaG35
import Derived.Test.YtlfonmpgenoooaaG16
set_option linter.unusedSimpArgs false
set_option linter.unusedVariables false
namespace Go.Proofs.Ytlfonmpgenoooaa
open Go.ChangeShapes Go.WideShapes Go.ChangeAt Go.RowKit Go.Deep
section
variable {H : Type} {enc : TypeId × Value → H} {W : World}
set_option maxRecDepth 100000 in
theorem wf_i64 {n : Int} (h : (Lit.int .i64 n).wf = true) : -9223372036854775808 ≤ n ∧ n ≤ 9223372036854775807 := by
 simp [Lit.wf, IntKind.min, IntKind.max, IntKind.signed, IntKind.bits] at h; omega
theorem flatMap_one {α : Type} (f : α → Value) (l : List α) : l.flatMap (fun n => [f n]) = l.map f := by induction l <;> simp_all
def IsInt (cs : List Value) (n : Int) : Prop := cs = [.int .i64 n] ∧ -9223372036854775808 ≤ n ∧ n ≤ 9223372036854775807
set_option maxRecDepth 100000 in
theorem int_trod : ∀ fuel cs x, DataW.trod enc Try.prog W 0 (fun _ => true) true fuel 3 cs = some x → ∃ n, IsInt cs n := by
 intro fuel cs x h; obtain ⟨n, rfl, _, hw⟩ := DataW.trod_int Try.underlying3 h; exact ⟨n, rfl, wf_i64 hw⟩
def IsSeat (cs : List Value) (s : Seat) : Prop := cs = seatCells s ∧ (-9223372036854775808 ≤ s.who ∧ s.who ≤ 9223372036854775807) ∧ -9223372036854775808 ≤ s.weight ∧ s.weight ≤ 9223372036854775807
set_option maxRecDepth 100000 in
theorem seat_trod : ∀ fuel cs x, DataW.trod enc Try.prog W 0 (fun _ => true) true fuel 38 cs = some x → ∃ s, IsSeat cs s := by
 intro fuel cs x h; obtain ⟨hl, n, hf⟩ := open_struct Try.underlying38 h; have e : Try.prog.cellsOf 38 = 2 := by kernel_rfl
 have ei : Try.prog.cellsOf 3 = 1 := by kernel_rfl
 rw [e] at hl
 match cs, hl with
 | [c0, c1], _ =>
  obtain ⟨y0, (h0 : DataW.trod enc Try.prog W 0 (fun _ => true) true n 3 (([c0, c1].drop 0).take (Try.prog.cellsOf 3)) = some y0)⟩ := hf 0 _ rfl; obtain ⟨y1, (h1 : DataW.trod enc Try.prog W 0 (fun _ => true) true n 3 (([c0, c1].drop 1).take (Try.prog.cellsOf 3)) = some y1)⟩ := hf 1 _ rfl; rw [ei] at h0 h1; obtain ⟨a, ha, ha'⟩ := int_trod _ _ _ h0; obtain ⟨b, hb, hb'⟩ := int_trod _ _ _ h1; simp at ha hb; subst ha; subst hb; exact ⟨⟨a, b⟩, rfl, ha', hb'⟩
set_option maxRecDepth 100000 in
theorem open_seats {v : Value} {d : DataW H} {p : List MemPlace} (hv : Value.okWide Try.prog W .any 0 22 v) (h : DataW.Trod enc Try.prog W 0 (fun _ => true) true 22 v d p) :
  ∃ A c l, v = .slice A l.length c ∧ l.length ≤ c ∧ c ≤ maxLen ∧ Seats W W.heap.size A l ∧ Wide l := by
 obtain ⟨fuel, hf⟩ := h; obtain ⟨a, len, cap, rfl⟩ := okWide_slice Try.underlying22 hv; obtain ⟨l, hl⟩ := slOf_of_trod (size := 2) (R := IsSeat) Try.underlying22 (by kernel_rfl) (by omega) seat_trod _ _ _ hf; obtain ⟨A, c, e, h1, h2, h3, h4⟩ := hl.flat seatCells (fun _ _ hx => hx.1); simp [Value.cells] at e; obtain ⟨rfl, rfl, rfl⟩ := e; refine ⟨_, _, l, rfl, h1, h2, h3, fun s hs => ?_⟩; obtain ⟨cs, hc⟩ := h4 s hs; exact hc.2
set_option maxRecDepth 100000 in
theorem open_intsT {v : Value} {d : DataW H} {p : List MemPlace} (hv : Value.okWide Try.prog W .any 0 23 v) (h : DataW.Trod enc Try.prog W 0 (fun _ => true) true 23 v d p) :
  ∃ A c l, v = .slice A l.length c ∧ l.length ≤ c ∧ c ≤ maxLen ∧ Ints W W.heap.size A l ∧ ∀ n ∈ l, -9223372036854775808 ≤ n ∧ n ≤ 9223372036854775807 := by
 obtain ⟨fuel, hf⟩ := h; obtain ⟨a, len, cap, rfl⟩ := okWide_slice Try.underlying23 hv; obtain ⟨l, hl⟩ := slOf_of_trod (size := 1) (R := IsInt) Try.underlying23 (by kernel_rfl) (by omega) int_trod _ _ _ hf; obtain ⟨A, c, e, h1, h2, h3, h4⟩ := hl.flat (fun n => [.int .i64 n]) (fun _ _ hx => hx.1); simp [Value.cells] at e; obtain ⟨rfl, rfl, rfl⟩ := e; refine ⟨_, _, l, rfl, h1, h2, ?_, fun s hs => ?_⟩
 ·rw [flatMap_one] at h3; exact h3
 ·obtain ⟨cs, hc⟩ := h4 s hs; exact hc.2
end
end Go.Proofs.Ytlfonmpgenoooaa
