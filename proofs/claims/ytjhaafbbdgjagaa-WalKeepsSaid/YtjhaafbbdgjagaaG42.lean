/- Of the texts Wal7a. -/
import Derived.Test.YtjhaafbbdgjagaaG16
import Derived.Test.YtjhaafbbdgjagaaG24
set_option linter.unusedSimpArgs false
set_option linter.unusedVariables false
namespace Go.Proofs.Ytjhaafbbdgjagaa
open Go Go.RowKit Vc
structure StepD where
 k : Int
 a : Int
 b : Int
 v : VoteD
def StepD.cells (x : StepD) : List Value := [.int .i64 x.k, .int .i64 x.a, .int .i64 x.b, .int .i64 x.v.h, .int .i64 x.v.r, .int .i64 x.v.s, .bool x.v.has, .int .u64 x.v.b, .int .i64 x.v.f]
def StepD.ok (x : StepD) : Prop := Iw x.k ∧ Iw x.a ∧ Iw x.b ∧ Iw x.v.h ∧ x.v.ok
end Go.Proofs.Ytjhaafbbdgjagaa
