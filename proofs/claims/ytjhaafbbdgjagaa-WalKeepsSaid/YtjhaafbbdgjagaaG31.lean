/- Of the texts Bench1. -/
import Derived.Test.YtjhaafbbdgjagaaProg
import Derived.Test.YtjhaafbbdgjagaaG23
import Derived.Test.YtjhaafbbdgjagaaG05
set_option linter.unusedSimpArgs false
set_option linter.unusedVariables false
namespace Go.Proofs.Ytjhaafbbdgjagaa
open Go.RowKit
end Go.Proofs.Ytjhaafbbdgjagaa
