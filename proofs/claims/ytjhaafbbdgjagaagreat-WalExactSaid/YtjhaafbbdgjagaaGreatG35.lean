/- Of the texts NodT. -/
import Derived.Test.YtjhaafbbdgjagaaGreatProg
import Derived.Test.YtjhaafbbdgjagaaGreatG33
import Derived.Test.YtjhaafbbdgjagaaGreatG34
set_option linter.unusedSimpArgs false
set_option linter.unusedVariables false
namespace Go.Proofs.YtjhaafbbdgjagaaGreat
open Go.ChangeShapes Go.WideShapes Go.ChangeAt Go.RowKit Go.Deep
section
variable {H : Type} {enc : TypeId × Value → H} {W : World}
theorem wf_u64 {n : Int} (h : (Lit.int .u64 n).wf = true) : 0 ≤ n ∧ n < 18446744073709551616 := by
 simp [Lit.wf, IntKind.min, IntKind.max, IntKind.signed, IntKind.bits] at h; omega
def IsDig (cs : List Value) (n : Int) : Prop := cs = [.int .u64 n] ∧ 0 ≤ n ∧ n < 18446744073709551616
set_option maxRecDepth 100000 in
theorem dig_trod : ∀ fuel cs x, DataW.trod enc Tryz.prog W 0 (fun _ => true) true fuel 40 cs = some x → ∃ n, IsDig cs n := by
 intro fuel cs x h; obtain ⟨n, rfl, _, hw⟩ := DataW.trod_int Tryz.underlying40 h; exact ⟨n, rfl, wf_u64 hw⟩
end
end Go.Proofs.YtjhaafbbdgjagaaGreat
