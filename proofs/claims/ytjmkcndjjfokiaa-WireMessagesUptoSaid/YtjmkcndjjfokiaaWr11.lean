/- The reference's writer: a result. -/
import Derived.Test.YtjmkcndjjfokiaaProg
import Derived.Test.YtjmkcndjjfokiaaWr9
namespace Go.Proofs.Ytjmkcndjjfokiaa
open Go.RowKit
end Go.Proofs.Ytjmkcndjjfokiaa
