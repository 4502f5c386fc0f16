/- Of the texts OpenT. -/
import Derived.Test.YtgjbcahpgkchfaaProg
import Derived.Test.YtgjbcahpgkchfaaG24
import Derived.Test.YtgjbcahpgkchfaaG26
set_option linter.unusedSimpArgs false
set_option linter.unusedVariables false
namespace Go.Proofs.Ytgjbcahpgkchfaa
open Go.ChangeShapes Go.WideShapes Go.ChangeAt Go.RowKit Go.Deep
section
variable {H : Type} {enc : TypeId × Value → H} {W : World}
set_option maxRecDepth 100000 in
theorem wf_i64 {n : Int} (h : (Lit.int .i64 n).wf = true) : -9223372036854775808 ≤ n ∧ n ≤ 9223372036854775807 := by
 simp [Lit.wf, IntKind.min, IntKind.max, IntKind.signed, IntKind.bits] at h; omega
theorem flatMap_one {α : Type} (f : α → Value) (l : List α) : l.flatMap (fun n => [f n]) = l.map f := by induction l <;> simp_all
def IsInt (cs : List Value) (n : Int) : Prop := cs = [.int .i64 n] ∧ -9223372036854775808 ≤ n ∧ n ≤ 9223372036854775807
set_option maxRecDepth 100000 in
theorem int_trod : ∀ fuel cs x, DataW.trod enc Try.prog W 0 (fun _ => true) true fuel 3 cs = some x → ∃ n, IsInt cs n := by
 intro fuel cs x h; obtain ⟨n, rfl, _, hw⟩ := DataW.trod_int Try.underlying3 h; exact ⟨n, rfl, wf_i64 hw⟩
end
end Go.Proofs.Ytgjbcahpgkchfaa
