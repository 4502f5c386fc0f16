/- Of the texts Tail. -/
import Derived.StillTailTactics
import Derived.BigQuiet
import Derived.WalkKit
set_option linter.unusedSimpArgs false
set_option linter.unusedVariables false
namespace Go
section
variable {P : Program} {ops : Array Oper}
end
end Go
