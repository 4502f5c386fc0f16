/- The reference's writer: a result. -/
import Derived.Test.YtkcnoljjilhpoaaProg
import Derived.Test.YtkcnoljjilhpoaaWr9
namespace Go.Proofs.Ytkcnoljjilhpoaa
open Go.RowKit
end Go.Proofs.Ytkcnoljjilhpoaa
