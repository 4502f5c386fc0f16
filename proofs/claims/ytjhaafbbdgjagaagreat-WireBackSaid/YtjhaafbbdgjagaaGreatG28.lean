/- Of the texts Open. -/
import Derived.Test.YtjhaafbbdgjagaaGreatG01
import Derived.Test.YtjhaafbbdgjagaaGreatG27
import Derived.Deep.Slices
import Derived.Deep.Fields
import Derived.ChangeSame
set_option linter.unusedSimpArgs false
set_option linter.unusedVariables false
namespace Go.Proofs.YtjhaafbbdgjagaaGreat
open Go.ChangeShapes Go.WideShapes Go.ChangeAt Go.RowKit Go.Deep
def SlOf {α : Type} (size : Nat) (R : List Value → α → Prop) (W : World) (cs : List Value) (l : List α) : Prop :=
 ∃ A c, cs = [.slice A l.length c] ∧ l.length ≤ c ∧ c ≤ maxLen ∧ ∃ xss : List (List Value), xss.length = l.length ∧ (∀ i (h : i < xss.length) (h' : i < l.length), xss[i].length = size ∧ R xss[i] l[i]) ∧ Rd W W.heap.size size A l.length xss.flatten
section
variable {H : Type} {enc : TypeId × Value → H} {P : Program} {W : World}
end
theorem SlOf.flat {α : Type} {size : Nat} {R : List Value → α → Prop} {W : World} {cs : List Value} {l : List α} (h : SlOf size R W cs l) (f : α → List Value) (hf : ∀ cs x, R cs x → cs = f x) :
  ∃ A c, cs = [.slice A l.length c] ∧ l.length ≤ c ∧ c ≤ maxLen ∧ Rd W W.heap.size size A l.length (l.flatMap f) ∧ ∀ x ∈ l, ∃ cs, R cs x := by
 obtain ⟨A, c, e, h1, h2, xss, hx, hr, hd⟩ := h; refine ⟨A, c, e, h1, h2, ?_, ?_⟩
 ·have : xss = l.map f := by
   apply List.ext_getElem (by simp [hx]); intro i h3 h4; simp only [List.getElem_map]; exact hf _ _ (hr i h3 (by omega)).2
  rw [this] at hd
  rwa [List.flatMap_def]
 ·intro x hx'; obtain ⟨i, hi, rfl⟩ := List.getElem_of_mem hx'; exact ⟨_, (hr i (by omega) hi).2⟩
end Go.Proofs.YtjhaafbbdgjagaaGreat
