/- Of the texts Dig0. -/
import Derived.Test.YtjhaafbbdgjagaaGreatProg
import Derived.Test.YtjhaafbbdgjagaaGreatG01
import Derived.Test.YtjhaafbbdgjagaaGreatG05
import Derived.Deep.QuietTactic
import Derived.BigQuiet
import Derived.BigGuardPart
import Derived.OpenShut
import Derived.Deep.DeepCutAuto
set_option linter.unusedSimpArgs false
set_option linter.unusedVariables false
namespace Go.Proofs.YtjhaafbbdgjagaaGreat
open Go.RowKit
def Strs (w : World) (B : Nat) (A : Option Addr) (ps : List (List UInt8)) : Prop := Rd w B 1 A ps.length (ps.map fun p => .string (bs p))
theorem Strs.at_ {w : World} {B : Nat} {A : Option Addr} {ps : List (List UInt8)} (h : Strs w B A ps) {k : Nat} (hk : k < ps.length) : ∃ b off, A = some ⟨b, off, none⟩ ∧ b < B ∧ w.cell? ⟨b, off + k, none⟩ = some (.string (bs ps[k])) := by
 obtain ⟨b, off, u, rfl, hb, hx, hc⟩ := Rd.at_ (j := 0) h hk (by omega); simp [List.getElem?_eq_getElem hk] at hx; subst hx; exact ⟨b, off, rfl, hb, by simpa using hc⟩
end Go.Proofs.YtjhaafbbdgjagaaGreat
