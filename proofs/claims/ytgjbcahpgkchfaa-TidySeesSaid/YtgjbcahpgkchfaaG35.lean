/- Of the texts Tail. -/
import Derived.StillTailTactics
import Derived.BigQuiet
import Derived.WalkKit
set_option linter.unusedSimpArgs false
set_option linter.unusedVariables false
namespace Go
section
variable {P : Program} {ops : Array Oper}
theorem still_of_quiet {Q : Act → Prop} {W : World} : ∀ (l : List Oper) (a : Act), wpQuiet P ops (fun w' => w' = W) Q l a → wpStill P ops W Q l a
 | [], _, h => h
 | o :: rest, a, h => by
  unfold wpQuiet at h; unfold wpStill; split
  ·rename_i hw
   rw [if_pos hw] at h; obtain ⟨v, h1, h2⟩ := h; have h3 := h1 W rfl; unfold Oper.quietAt at h3; unfold Oper.still; have ih := still_of_quiet rest _ h2; generalize (execOp a.eval o).run P W = r at *; cases r with
   | ok n w' =>
    cases n <;> simp only [Oper.quietUpon] at h3 <;> simp only [Oper.stillUpon]
    case value u => exact ⟨h3.1, by rw [h3.2]; exact ih⟩
    case skip => exact ⟨h3.1, by rw [← h3.2]; exact ih⟩
    case enter f args => exact ⟨h3.1, v, h3.2, ih⟩
   | halt x w' => simp only [Oper.quietUpon] at h3
  ·rename_i hw
   rw [if_neg hw] at h; exact still_of_quiet rest _ h
theorem wp_region_tail {id : Nat} {Q : Exit → Act → World → Prop} {a : Act} {w : World} {l : List Oper} (n : Nat) (hm : P.follows .mixedOrders = true) (hB : Region.lexTailB .any l.toArray n = true)
  (h : wpQuiet P l.toArray (fun w' => w' = w.drew) (fun a' => wpList P l.toArray Q (l.drop n) a' w.drew) (l.take n) a) : (Code.region id l.toArray true).wp P Q a w :=
 wp_region_still_tail n hm hB (still_of_quiet _ _ h)
end
end Go
