/- Of the texts NodT. -/
import Derived.Test.YtjjkdmngmopjbaaProg
import Derived.Test.YtjjkdmngmopjbaaG36
import Derived.Test.YtjjkdmngmopjbaaG16
set_option linter.unusedSimpArgs false
set_option linter.unusedVariables false
namespace Go.Proofs.Ytjjkdmngmopjbaa
open Go.ChangeShapes Go.WideShapes Go.ChangeAt Go.RowKit Go.Deep
section
variable {H : Type} {enc : TypeId × Value → H} {W : World}
theorem wf_u64 {n : Int} (h : (Lit.int .u64 n).wf = true) : 0 ≤ n ∧ n < 18446744073709551616 := by
  simp [Lit.wf, IntKind.min, IntKind.max, IntKind.signed, IntKind.bits] at h; omega
def IsDig (cs : List Value) (n : Int) : Prop := cs = [.int .u64 n] ∧ 0 ≤ n ∧ n < 18446744073709551616
set_option maxRecDepth 100000 in
theorem dig_trod : ∀ fuel cs x, DataW.trod enc Try.prog W 0 (fun _ => true) true fuel 23 cs = some x → ∃ n, IsDig cs n := by
  intro fuel cs x h
  obtain ⟨n, rfl, _, hw⟩ := DataW.trod_int Try.underlying23 h
  exact ⟨n, rfl, wf_u64 hw⟩
def IsStr (cs : List Value) (s : List UInt8) : Prop := cs = [.string (bs s)] ∧ s.length ≤ maxLen
set_option maxRecDepth 100000 in
theorem str_trod : ∀ fuel cs x, DataW.trod enc Try.prog W 0 (fun _ => true) true fuel 9 cs = some x → ∃ s, IsStr cs s := by
  intro fuel cs x h
  obtain ⟨s, rfl, _, hw⟩ := DataW.trod_string Try.underlying9 h
  exact ⟨s.data.toList, rfl, hw⟩
theorem cellsInt : Try.prog.cellsOf 3 = 1 := by kernel_rfl
theorem cellsStr : Try.prog.cellsOf 9 = 1 := by kernel_rfl
theorem cellsDig : Try.prog.cellsOf 23 = 1 := by kernel_rfl
set_option maxRecDepth 100000 in
theorem open_node {v : Value} {d : DataW H} {p : List MemPlace} (hv : Value.okWide Try.prog W .any 0 75 v) (h : DataW.Trod enc Try.prog W 0 (fun _ => true) true 75 v d p) :
    ∃ n : Nod, v = .agg (nodCells n) ∧ n.ok := by
  obtain ⟨fuel, hf⟩ := h
  obtain ⟨cs, rfl, hsz⟩ := okWide_struct Try.underlying75 hv
  have e : Try.prog.cellsOf 75 = 6 := by kernel_rfl
  obtain ⟨l⟩ := cs
  have hl : l.length = 6 := by rw [e] at hsz; simpa using hsz
  match l, hl with
  | [c0, c1, c2, c3, c4, c5], _ =>
    obtain ⟨_, n, hg⟩ := open_struct Try.underlying75 hf
    have hcs : (Value.agg #[c0, c1, c2, c3, c4, c5]).cells.toList = [c0, c1, c2, c3, c4, c5] := by simp [Value.cells]
    rw [hcs] at hg
    obtain ⟨y0, (h0 : DataW.trod enc Try.prog W 0 (fun _ => true) true n 3 (([c0, c1, c2, c3, c4, c5].drop 0).take (Try.prog.cellsOf 3)) = some y0)⟩ := hg 0 _ rfl
    obtain ⟨y1, (h1 : DataW.trod enc Try.prog W 0 (fun _ => true) true n 9 (([c0, c1, c2, c3, c4, c5].drop 1).take (Try.prog.cellsOf 9)) = some y1)⟩ := hg 1 _ rfl
    obtain ⟨y2, (h2 : DataW.trod enc Try.prog W 0 (fun _ => true) true n 9 (([c0, c1, c2, c3, c4, c5].drop 2).take (Try.prog.cellsOf 9)) = some y2)⟩ := hg 2 _ rfl
    obtain ⟨y3, (h3 : DataW.trod enc Try.prog W 0 (fun _ => true) true n 3 (([c0, c1, c2, c3, c4, c5].drop 3).take (Try.prog.cellsOf 3)) = some y3)⟩ := hg 3 _ rfl
    obtain ⟨y4, (h4 : DataW.trod enc Try.prog W 0 (fun _ => true) true n 23 (([c0, c1, c2, c3, c4, c5].drop 4).take (Try.prog.cellsOf 23)) = some y4)⟩ := hg 4 _ rfl
    obtain ⟨y5, (h5 : DataW.trod enc Try.prog W 0 (fun _ => true) true n 23 (([c0, c1, c2, c3, c4, c5].drop 5).take (Try.prog.cellsOf 23)) = some y5)⟩ := hg 5 _ rfl
    rw [cellsInt] at h0 h3
    rw [cellsStr] at h1 h2
    rw [cellsDig] at h4 h5
    obtain ⟨a0, e0, _⟩ := int_trod _ _ _ h0
    obtain ⟨a1, e1, g1⟩ := str_trod _ _ _ h1
    obtain ⟨a2, e2, g2⟩ := str_trod _ _ _ h2
    obtain ⟨a3, e3, _⟩ := int_trod _ _ _ h3
    obtain ⟨a4, e4, g4⟩ := dig_trod _ _ _ h4
    obtain ⟨a5, e5, g5⟩ := dig_trod _ _ _ h5
    simp at e0 e1 e2 e3 e4 e5
    subst e0; subst e1; subst e2; subst e3; subst e4; subst e5
    exact ⟨⟨a0, a1, a2, a3, a4, a5⟩, rfl, g4, g5, g1, g2⟩
end
end Go.Proofs.Ytjjkdmngmopjbaa
