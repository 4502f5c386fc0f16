/- Of the texts Bench1. -/
import Derived.Test.YtgjbcahpgkchfaaProg
import Derived.Test.YtgjbcahpgkchfaaG25
import Derived.Test.YtgjbcahpgkchfaaG07
set_option linter.unusedSimpArgs false
set_option linter.unusedVariables false
namespace Go.Proofs.Ytgjbcahpgkchfaa
open Go.RowKit
def place (l : List Seat) (s : Seat) : Nat := (l.takeWhile fun x => decide (x.who < s.who)).length
end Go.Proofs.Ytgjbcahpgkchfaa
