/- Of the texts Bench0. -/
import Derived.Test.YtgjbcahpgkchfaaProg
import Derived.Test.YtgjbcahpgkchfaaG03
import Derived.BigGuardPart
import Derived.Deep.QuietTactic
import Derived.BigQuiet
set_option linter.unusedSimpArgs false
set_option linter.unusedVariables false
namespace Go.Proofs.Ytgjbcahpgkchfaa
open Go.RowKit
structure Seat where
 who : Int
 weight : Int
deriving DecidableEq, Repr
def seatCells (s : Seat) : List Value := [.int .i64 s.who, .int .i64 s.weight]
def seatsCells (l : List Seat) : List Value := l.flatMap seatCells
theorem seatsCells_at (l : List Seat) (k j : Nat) (hj : j < 2) : (seatsCells l)[k * 2 + j]? = (l[k]?).bind fun x => (seatCells x)[j]? := flatMap_two seatCells (fun _ => rfl) l k j hj
def Seats (w : World) (B : Nat) (A : Option Addr) (l : List Seat) : Prop := Rd w B 2 A l.length (seatsCells l)
theorem Seats.at_ {w : World} {B : Nat} {A : Option Addr} {l : List Seat} (h : Seats w B A l) {k : Nat} (hk : k < l.length) :
  ∃ b off, A = some ⟨b, off, none⟩ ∧ b < B ∧ w.cell? ⟨b, off + k * 2, none⟩ = some (.int .i64 l[k].who) ∧ w.cell? ⟨b, off + k * 2 + 1, none⟩ = some (.int .i64 l[k].weight) := by
 obtain ⟨b, off, u, rfl, hb, hx, hc⟩ := Rd.at_ (j := 0) h hk (by omega); obtain ⟨b', off', u', e, _, hx', hc'⟩ := Rd.at_ (j := 1) h hk (by omega); simp only [Option.some.injEq, Addr.mk.injEq, and_true] at e; obtain ⟨rfl, rfl⟩ := e; rw [seatsCells_at _ _ _ (by omega), List.getElem?_eq_getElem hk] at hx hx'; simp [seatCells] at hx hx'; subst hx; subst hx'; exact ⟨b, off, rfl, hb, by simpa using hc, by simpa [Nat.add_assoc] using hc'⟩
def Ints (w : World) (B : Nat) (A : Option Addr) (l : List Int) : Prop := Rd w B 1 A l.length (l.map (Value.int .i64))
theorem Ints.at_ {w : World} {B : Nat} {A : Option Addr} {l : List Int} (h : Ints w B A l) {k : Nat} (hk : k < l.length) :
  ∃ b off, A = some ⟨b, off, none⟩ ∧ b < B ∧ w.cell? ⟨b, off + k, none⟩ = some (.int .i64 l[k]) := by
 obtain ⟨b, off, u, rfl, hb, hx, hc⟩ := Rd.at_ (j := 0) h hk (by omega); simp [List.getElem?_eq_getElem hk] at hx; subst hx; exact ⟨b, off, rfl, hb, by simpa using hc⟩
def seatOk (s : Seat) : Bool := decide (1 ≤ s.who) && decide (s.who ≤ 1099511627775) && decide (1 ≤ s.weight) && decide (s.weight ≤ 1099511627775)
def fitsFrom (last : Int) : List Seat → Bool
 | [] => true
 | s :: l => seatOk s && decide (last < s.who) && fitsFrom s.who l
def fits (l : List Seat) : Bool := fitsFrom 0 l && decide (1 ≤ l.length) && decide (l.length ≤ 7)
end Go.Proofs.Ytgjbcahpgkchfaa
