/- The reference's writer: a result. -/
import Derived.Test.YtjjkdmngmopjbaaProg
import Derived.Test.YtjjkdmngmopjbaaWr9
namespace Go.Proofs.Ytjjkdmngmopjbaa
open Go.RowKit
end Go.Proofs.Ytjjkdmngmopjbaa
