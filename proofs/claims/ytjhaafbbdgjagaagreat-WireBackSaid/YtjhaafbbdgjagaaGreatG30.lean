/- Of the texts OpenT. -/
import Derived.Test.YtjhaafbbdgjagaaGreatProg
import Derived.Test.YtjhaafbbdgjagaaGreatG28
import Derived.Test.YtjhaafbbdgjagaaGreatG29
set_option linter.unusedSimpArgs false
set_option linter.unusedVariables false
namespace Go.Proofs.YtjhaafbbdgjagaaGreat
open Go.ChangeShapes Go.WideShapes Go.ChangeAt Go.RowKit Go.Deep
section
variable {H : Type} {enc : TypeId × Value → H} {W : World}
set_option maxRecDepth 100000 in
theorem wf_i64 {n : Int} (h : (Lit.int .i64 n).wf = true) : -9223372036854775808 ≤ n ∧ n ≤ 9223372036854775807 := by
 simp [Lit.wf, IntKind.min, IntKind.max, IntKind.signed, IntKind.bits] at h; omega
end
end Go.Proofs.YtjhaafbbdgjagaaGreat
