/- Of the texts OpenI. -/
import Derived.Test.YtjjkdmngmopjbaaProg
import Derived.Test.YtjjkdmngmopjbaaG05
import Derived.Test.YtjjkdmngmopjbaaG20
import Derived.Test.YtjjkdmngmopjbaaG31
import Derived.Test.YtjjkdmngmopjbaaG22
namespace Go.Proofs.Ytjjkdmngmopjbaa
open Go.ChangeShapes Go.WideShapes Go.ChangeAt Go.RowKit Go.Deep
section
variable {H : Type} {enc : TypeId × Value → H} {W : World}
def IsItem (cs : List Value) (x : Ent) : Prop := cs = [.string (bs x.1), .string (bs x.2)] ∧ x.1.length ≤ maxLen ∧ x.2.length ≤ maxLen
set_option maxRecDepth 100000 in
theorem item_trod : ∀ fuel cs x, DataW.trod enc Try.prog W 0 (fun _ => true) true fuel 132 cs = some x → ∃ i, IsItem cs i := by
  intro fuel cs x h
  obtain ⟨hl, n, hf⟩ := open_struct Try.underlying132 h
  have e : Try.prog.cellsOf 132 = 2 := by kernel_rfl
  have es : Try.prog.cellsOf 9 = 1 := by kernel_rfl
  rw [e] at hl
  match cs, hl with
  | [c0, c1], _ =>
    obtain ⟨y0, (h0 : DataW.trod enc Try.prog W 0 (fun _ => true) true n 9 (([c0, c1].drop 0).take (Try.prog.cellsOf 9)) = some y0)⟩ := hf 0 _ rfl
    obtain ⟨y1, (h1 : DataW.trod enc Try.prog W 0 (fun _ => true) true n 9 (([c0, c1].drop 1).take (Try.prog.cellsOf 9)) = some y1)⟩ := hf 1 _ rfl
    rw [es] at h0 h1
    obtain ⟨a, ha, la⟩ := str_trod _ _ _ h0
    obtain ⟨b, hb, lb⟩ := str_trod _ _ _ h1
    simp at ha hb
    subst ha; subst hb
    exact ⟨(a, b), rfl, la, lb⟩
set_option maxRecDepth 100000 in
theorem open_items {v : Value} {d : DataW H} {p : List MemPlace} (hv : Value.okWide Try.prog W .any 0 55 v) (h : DataW.Trod enc Try.prog W 0 (fun _ => true) true 55 v d p) :
    ∃ A c l, v = .slice A l.length c ∧ l.length ≤ maxLen ∧ ItR W W.heap.size A l := by
  obtain ⟨fuel, hf⟩ := h
  obtain ⟨a, len, cap, rfl⟩ := okWide_slice Try.underlying55 hv
  obtain ⟨l, hl⟩ := slOf_of_trod (size := 2) (R := IsItem) Try.underlying55 (by kernel_rfl) (by omega) item_trod _ _ _ hf
  obtain ⟨A, c, e, h1, h2, h3, h4⟩ := hl.flat (fun x => [.string (bs x.1), .string (bs x.2)]) (fun _ _ hx => hx.1)
  simp [Value.cells] at e
  obtain ⟨rfl, rfl, rfl⟩ := e
  exact ⟨_, _, l, rfl, by omega, h3⟩
end
end Go.Proofs.Ytjjkdmngmopjbaa
