/- The cost of an instruction, by package code and by the reference. -/
import Derived.Test.YtkcnoljjilhpoaaProg
import Derived.Test.YtkcnoljjilhpoaaWr18
namespace Go.Proofs.Ytkcnoljjilhpoaa
open Go.RowKit
def costS (k : Int) : Int := if k = 16 then 2 else if k = 18 ∨ k = 20 ∨ k = 26 ∨ k = 28 then 4 else if k = 19 ∨ k = 21 then 8 else if k = 27 ∨ k = 30 then 16 else 1
set_option maxRecDepth 100000 in
set_option maxHeartbeats 1000000 in
theorem cost_any (k : Int) (w : World) : Calls Try.prog 15 #[.int .i64 k] w fun e w' => e = .returned (.int .i64 (costS k)) ∧ Below w.heap.size w w' := by
  have hC : Hid (costS k = if k = 16 then 2 else if k = 18 ∨ k = 20 ∨ k = 26 ∨ k = 28 then 4 else if k = 19 ∨ k = 21 then 8 else if k = 27 ∨ k = 30 then 16 else 1) := rfl
  by_cases h : k = 16
  · subst h
    clear hC
    go_enter Try.func15, Try.ntmps15
    go_wp2_with fail
    go_ret
    exact ⟨ret_int (by rfl), Below.refl _ _⟩
  have b16 : (k == 16) = false := beq_eq_false_iff_ne.2 h
  have n16 := h
  clear h
  by_cases h : k = 18
  · subst h
    clear hC
    go_enter Try.func15, Try.ntmps15
    go_wp2_with fail
    go_ret
    exact ⟨ret_int (by rfl), Below.refl _ _⟩
  have b18 : (k == 18) = false := beq_eq_false_iff_ne.2 h
  have n18 := h
  clear h
  by_cases h : k = 20
  · subst h
    clear hC
    go_enter Try.func15, Try.ntmps15
    go_wp2_with fail
    go_ret
    exact ⟨ret_int (by rfl), Below.refl _ _⟩
  have b20 : (k == 20) = false := beq_eq_false_iff_ne.2 h
  have n20 := h
  clear h
  by_cases h : k = 26
  · subst h
    clear hC
    go_enter Try.func15, Try.ntmps15
    go_wp2_with fail
    go_ret
    exact ⟨ret_int (by rfl), Below.refl _ _⟩
  have b26 : (k == 26) = false := beq_eq_false_iff_ne.2 h
  have n26 := h
  clear h
  by_cases h : k = 28
  · subst h
    clear hC
    go_enter Try.func15, Try.ntmps15
    go_wp2_with fail
    go_ret
    exact ⟨ret_int (by rfl), Below.refl _ _⟩
  have b28 : (k == 28) = false := beq_eq_false_iff_ne.2 h
  have n28 := h
  clear h
  by_cases h : k = 19
  · subst h
    clear hC
    go_enter Try.func15, Try.ntmps15
    go_wp2_with fail
    go_ret
    exact ⟨ret_int (by rfl), Below.refl _ _⟩
  have b19 : (k == 19) = false := beq_eq_false_iff_ne.2 h
  have n19 := h
  clear h
  by_cases h : k = 21
  · subst h
    clear hC
    go_enter Try.func15, Try.ntmps15
    go_wp2_with fail
    go_ret
    exact ⟨ret_int (by rfl), Below.refl _ _⟩
  have b21 : (k == 21) = false := beq_eq_false_iff_ne.2 h
  have n21 := h
  clear h
  by_cases h : k = 27
  · subst h
    clear hC
    go_enter Try.func15, Try.ntmps15
    go_wp2_with fail
    go_ret
    exact ⟨ret_int (by rfl), Below.refl _ _⟩
  have b27 : (k == 27) = false := beq_eq_false_iff_ne.2 h
  have n27 := h
  clear h
  by_cases h : k = 30
  · subst h
    clear hC
    go_enter Try.func15, Try.ntmps15
    go_wp2_with fail
    go_ret
    exact ⟨ret_int (by rfl), Below.refl _ _⟩
  have b30 : (k == 30) = false := beq_eq_false_iff_ne.2 h
  have n30 := h
  clear h
  go_enter Try.func15, Try.ntmps15
  go_wp2_with fail
  go_ret
  exact ⟨ret_int (by rw [hC.out]; simp [n16, n18, n20, n26, n28, n19, n21, n27, n30]), Below.refl _ _⟩
set_option maxRecDepth 100000 in
set_option maxHeartbeats 1000000 in
theorem rcost_any (k : Int) (w : World) : Calls Try.prog 16 #[.int .i64 k] w fun e w' => e = .returned (.int .i64 (costS k)) ∧ Below w.heap.size w w' := by
  have hC : Hid (costS k = if k = 16 then 2 else if k = 18 ∨ k = 20 ∨ k = 26 ∨ k = 28 then 4 else if k = 19 ∨ k = 21 then 8 else if k = 27 ∨ k = 30 then 16 else 1) := rfl
  have hin := fun (q : Int) => rin_any q [18, 20, 26, 28] 4 w.heap.size _ (Blk.new w 3 #[.int .i64 18, .int .i64 20, .int .i64 26, .int .i64 28]) (by simp)
  have hbel : Below w.heap.size w (w.alloc (.cells #[.int .i64 18, .int .i64 20, .int .i64 26, .int .i64 28] 3)) := (Below.refl _ _).alloc (Nat.le_refl _) _
  by_cases h : k = 16
  · subst h
    clear hC
    go_enter Try.func16, Try.ntmps16
    go_wp2_with fail
    go_ret
    exact ⟨ret_int (by rfl), Below.refl _ _⟩
  have b16 : (k == 16) = false := beq_eq_false_iff_ne.2 h
  have n16 := h
  clear h
  by_cases h : k = 18
  · subst h
    clear hC
    go_enter Try.func16, Try.ntmps16
    go_wp2_with fail
    refine (hin 18).mono ?_
    rintro e w1 ⟨rfl, rfl⟩
    rw [show inB 18 [18, 20, 26, 28] = true from rfl]
    go_wp2_with fail
    go_ret
    exact ⟨ret_int (by rfl), hbel⟩
  have b18 : (k == 18) = false := beq_eq_false_iff_ne.2 h
  have n18 := h
  clear h
  by_cases h : k = 20
  · subst h
    clear hC
    go_enter Try.func16, Try.ntmps16
    go_wp2_with fail
    refine (hin 20).mono ?_
    rintro e w1 ⟨rfl, rfl⟩
    rw [show inB 20 [18, 20, 26, 28] = true from rfl]
    go_wp2_with fail
    go_ret
    exact ⟨ret_int (by rfl), hbel⟩
  have b20 : (k == 20) = false := beq_eq_false_iff_ne.2 h
  have n20 := h
  clear h
  by_cases h : k = 26
  · subst h
    clear hC
    go_enter Try.func16, Try.ntmps16
    go_wp2_with fail
    refine (hin 26).mono ?_
    rintro e w1 ⟨rfl, rfl⟩
    rw [show inB 26 [18, 20, 26, 28] = true from rfl]
    go_wp2_with fail
    go_ret
    exact ⟨ret_int (by rfl), hbel⟩
  have b26 : (k == 26) = false := beq_eq_false_iff_ne.2 h
  have n26 := h
  clear h
  by_cases h : k = 28
  · subst h
    clear hC
    go_enter Try.func16, Try.ntmps16
    go_wp2_with fail
    refine (hin 28).mono ?_
    rintro e w1 ⟨rfl, rfl⟩
    rw [show inB 28 [18, 20, 26, 28] = true from rfl]
    go_wp2_with fail
    go_ret
    exact ⟨ret_int (by rfl), hbel⟩
  have b28 : (k == 28) = false := beq_eq_false_iff_ne.2 h
  have n28 := h
  clear h
  by_cases h : k = 19
  · subst h
    clear hC
    go_enter Try.func16, Try.ntmps16
    go_wp2_with fail
    refine (hin 19).mono ?_
    rintro e w1 ⟨rfl, rfl⟩
    rw [show inB 19 [18, 20, 26, 28] = false from rfl]
    go_wp2_with fail
    go_ret
    exact ⟨ret_int (by rfl), hbel⟩
  have b19 : (k == 19) = false := beq_eq_false_iff_ne.2 h
  have n19 := h
  clear h
  by_cases h : k = 21
  · subst h
    clear hC
    go_enter Try.func16, Try.ntmps16
    go_wp2_with fail
    refine (hin 21).mono ?_
    rintro e w1 ⟨rfl, rfl⟩
    rw [show inB 21 [18, 20, 26, 28] = false from rfl]
    go_wp2_with fail
    go_ret
    exact ⟨ret_int (by rfl), hbel⟩
  have b21 : (k == 21) = false := beq_eq_false_iff_ne.2 h
  have n21 := h
  clear h
  by_cases h : k = 27
  · subst h
    clear hC
    go_enter Try.func16, Try.ntmps16
    go_wp2_with fail
    refine (hin 27).mono ?_
    rintro e w1 ⟨rfl, rfl⟩
    rw [show inB 27 [18, 20, 26, 28] = false from rfl]
    go_wp2_with fail
    go_ret
    exact ⟨ret_int (by rfl), hbel⟩
  have b27 : (k == 27) = false := beq_eq_false_iff_ne.2 h
  have n27 := h
  clear h
  by_cases h : k = 30
  · subst h
    clear hC
    go_enter Try.func16, Try.ntmps16
    go_wp2_with fail
    refine (hin 30).mono ?_
    rintro e w1 ⟨rfl, rfl⟩
    rw [show inB 30 [18, 20, 26, 28] = false from rfl]
    go_wp2_with fail
    go_ret
    exact ⟨ret_int (by rfl), hbel⟩
  have b30 : (k == 30) = false := beq_eq_false_iff_ne.2 h
  have n30 := h
  clear h
  have hinb : inB k [18, 20, 26, 28] = false := by
    simp only [inB, List.any_cons, List.any_nil, Bool.or_false, Bool.or_eq_false_iff, beq_eq_false_iff_ne]
    exact ⟨fun e => n18 e.symm, fun e => n20 e.symm, fun e => n26 e.symm, fun e => n28 e.symm⟩
  go_enter Try.func16, Try.ntmps16
  go_wp2_with fail
  refine (hin k).mono ?_
  rintro e w1 ⟨rfl, rfl⟩
  rw [hinb]
  go_wp2_with fail
  go_ret
  exact ⟨ret_int (by rw [hC.out]; simp [n16, n18, n20, n26, n28, n19, n21, n27, n30]), hbel⟩
end Go.Proofs.Ytkcnoljjilhpoaa
