/- The laws on trees: two lists of items that are one; are they light. -/
import Derived.Test.YtkcnoljjilhpoaaProg
import Derived.Test.YtkcnoljjilhpoaaTri16
import Derived.Deep.QuietTactic
import Derived.BigQuiet
namespace Go.Proofs.Ytkcnoljjilhpoaa
open Go.RowKit
set_option maxRecDepth 100000 in
theorem sameItems_any (l : List Ent) (A A' : Option Addr) (c c' B B' : Nat) (w : World) (h : ItR w B A l) (h' : ItR w B' A' l) (hlen : l.length ≤ 1000000000000) :
    Calls Try.prog 24 #[.slice A l.length c, .slice A' l.length c'] w fun e w' => e = .returned (.bool true) ∧ Below w.heap.size w w' := by
  go_enter Try.func24, Try.ntmps24
  go_wp2_with fail
  go_loopw [5] (fun z wr => ∃ (i d : Nat), z = .int .i64 (i : Int) ∧ i ≤ l.length ∧ wr = w.drewN d) (fun z _ => l.length - (intOf z).toNat)
  case atStart => exact ⟨0, 0, rfl, by omega, rfl⟩
  case round =>
    obtain ⟨i, d, rfl, hi, rfl⟩ := hrel
    by_cases hlt : i < l.length
    · have hii : (i : Int) < (l.length : Int) := by omega
      obtain ⟨b, o, rfl, _, x0, x1⟩ := h.at_ hlt
      obtain ⟨b', o', rfl, _, y0, y1⟩ := h'.at_ hlt
      generalize l[i] = x at *
      go_wp2_with fail
      go_quiet (fail)
      go_wp2_with fail
      go_roundw
      case rel => exact ⟨i + 1, _, by go_num, by omega, rfl⟩
      case measure => simp [intOf]; omega
    · have hii : ¬ (i : Int) < (l.length : Int) := by omega
      go_wp2_with fail
      go_ret
      exact ⟨rfl, (Below.refl _ _).drewN _⟩
def LightR (w : World) (n : Nat) (e : Ending) (w' : World) : Prop := ∃ b : Bool, e = .returned (.bool b) ∧ (b = true → n ≤ 1024) ∧ Below w.heap.size w w'
set_option maxRecDepth 100000 in
theorem lightItems_any (l : List Ent) (A : Option Addr) (c B : Nat) (w : World) (h : ItR w B A l) (hlen : l.length ≤ 9223372036854775807) :
    Calls Try.prog 17 #[.slice A l.length c] w (LightR w l.length) := by
  go_enter Try.func17, Try.ntmps17
  go_wp2_with fail
  go_loopw [3, 4] (fun n z wr => ∃ (i d : Nat) (m : Int), n = .int .i64 m ∧ z = .int .i64 (i : Int) ∧ i ≤ l.length ∧ wr = w.drewN d) (fun _ z _ => l.length - (intOf z).toNat)
  case atStart => exact ⟨0, 0, _, rfl, rfl, by omega, rfl⟩
  case round =>
    obtain ⟨i, d, m, rfl, rfl, hi, rfl⟩ := hrel
    by_cases hlt : i < l.length
    · have hii : (i : Int) < (l.length : Int) := by omega
      by_cases hm : m ≤ 65536
      · have hm0 : decide (m ≤ 65536) = true := decide_eq_true hm
        obtain ⟨b, o, rfl, _, x0, x1⟩ := h.at_ hlt
        generalize l[i] = x at *
        obtain ⟨xk, xv⟩ := x
        simp only at x0 x1
        obtain ⟨Y, hY⟩ : ∃ Y, IntKind.i64.wrap (m + (xk.length : Int)) = Y := ⟨_, rfl⟩
        obtain ⟨Z, hZ⟩ : ∃ Z, IntKind.i64.wrap (Y + (xv.length : Int)) = Z := ⟨_, rfl⟩
        have hY' : wrap64 (m + (xk.length : Int)) = Y := by rw [← IntWalk.i64_left]; exact hY
        have hZ' : wrap64 (Y + (xv.length : Int)) = Z := by rw [← IntWalk.i64_left]; exact hZ
        go_wp2_with fail
        go_quiet (fail)
        go_wp2_with fail
        go_roundw
        case rel => exact ⟨i + 1, _, _, rfl, by go_num, by omega, rfl⟩
        case measure => simp [intOf]; omega
      · have hm0 : decide (m ≤ 65536) = false := decide_eq_false hm
        go_wp2_with fail
        go_ret
        exact ⟨false, rfl, fun h => (by cases h), (Below.refl _ _).drewN _⟩
    · have hii : ¬ (i : Int) < (l.length : Int) := by omega
      by_cases hm : m ≤ 65536
      · have hm0 : decide (m ≤ 65536) = true := decide_eq_true hm
        by_cases hl : l.length ≤ 1024
        · have hl0 : decide ((l.length : Int) ≤ 1024) = true := decide_eq_true (by omega)
          go_wp2_with fail
          go_ret
          exact ⟨true, rfl, fun _ => hl, (Below.refl _ _).drewN _⟩
        · have hl0 : decide ((l.length : Int) ≤ 1024) = false := decide_eq_false (by omega)
          go_wp2_with fail
          go_ret
          exact ⟨false, rfl, fun h => (by cases h), (Below.refl _ _).drewN _⟩
      · have hm0 : decide (m ≤ 65536) = false := decide_eq_false hm
        go_wp2_with fail
        go_ret
        exact ⟨false, rfl, fun h => (by cases h), (Below.refl _ _).drewN _⟩
end Go.Proofs.Ytkcnoljjilhpoaa
