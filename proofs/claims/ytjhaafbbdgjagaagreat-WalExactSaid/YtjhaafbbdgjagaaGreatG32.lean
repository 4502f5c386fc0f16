/- Of the texts Bench1. -/
import Derived.Test.YtjhaafbbdgjagaaGreatProg
import Derived.Test.YtjhaafbbdgjagaaGreatG23
import Derived.Test.YtjhaafbbdgjagaaGreatG05
set_option linter.unusedSimpArgs false
set_option linter.unusedVariables false
namespace Go.Proofs.YtjhaafbbdgjagaaGreat
open Go.RowKit
end Go.Proofs.YtjhaafbbdgjagaaGreat
