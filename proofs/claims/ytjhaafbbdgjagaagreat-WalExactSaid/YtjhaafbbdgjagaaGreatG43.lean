/- Of the texts Rd0. -/
import Derived.Test.YtjhaafbbdgjagaaGreatProg
import Derived.Test.YtjhaafbbdgjagaaGreatG17
import Derived.Test.YtjhaafbbdgjagaaGreatG15
import Derived.Test.YtjhaafbbdgjagaaGreatG27
set_option linter.unusedSimpArgs false
set_option linter.unusedVariables false
namespace Go.Proofs.YtjhaafbbdgjagaaGreat
open Go.RowKit Vc
set_option maxRecDepth 100000
def restOf (P : Program) (f : Nat) : Code := match (P.funcs[f]?).bind (·.body) with | some (.seq _ (.seq _ c)) => c | _ => .skip
def fnOf (P : Program) (f : Nat) : Func := (P.funcs[f]?).getD default
def fnV (f : Nat) : Value := .func (.func f) #[] #[]
def pWhole {α : Type} (p : ByteArray → Got α) (put : α → Int) (s : ByteArray) : Except Int α :=
 match p s with
 | .error e => .error e
 | .ok (x, r) => if 0 < r.size then .error 4 else if put x = 0 then .ok x else .error (put x)
end Go.Proofs.YtjhaafbbdgjagaaGreat
