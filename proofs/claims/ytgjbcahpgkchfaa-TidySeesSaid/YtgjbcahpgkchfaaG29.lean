/- Of the texts NodT. -/
import Derived.Test.YtgjbcahpgkchfaaProg
import Derived.Test.YtgjbcahpgkchfaaG27
import Derived.Test.YtgjbcahpgkchfaaG28
set_option linter.unusedSimpArgs false
set_option linter.unusedVariables false
namespace Go.Proofs.Ytgjbcahpgkchfaa
open Go.ChangeShapes Go.WideShapes Go.ChangeAt Go.RowKit Go.Deep
section
variable {H : Type} {enc : TypeId × Value → H} {W : World}
def IsStr (cs : List Value) (s : List UInt8) : Prop := cs = [.string (bs s)] ∧ s.length ≤ maxLen
set_option maxRecDepth 100000 in
theorem str_trod : ∀ fuel cs x, DataW.trod enc Try.prog W 0 (fun _ => true) true fuel 9 cs = some x → ∃ s, IsStr cs s := by
 intro fuel cs x h; obtain ⟨s, rfl, _, hw⟩ := DataW.trod_string Try.underlying9 h; exact ⟨s.data.toList, rfl, hw⟩
end
end Go.Proofs.Ytgjbcahpgkchfaa
