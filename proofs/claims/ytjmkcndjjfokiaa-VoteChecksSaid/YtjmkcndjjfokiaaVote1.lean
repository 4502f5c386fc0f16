/- What those named weigh, and a quorum, by the reference. -/
import Derived.Test.YtjmkcndjjfokiaaProg
import Derived.Test.YtjmkcndjjfokiaaVote0
namespace Go.Proofs.Ytjmkcndjjfokiaa
open Go.RowKit
theorem mem_stop (l : List Int) (k : Int) (i : Nat) (h : i < l.length) (e : l[i] = k) : decide (k ∈ l) = true := decide_eq_true (e ▸ List.getElem_mem h)
theorem mem_none (l : List Int) (k : Int) (h : ∀ i (hi : i < l.length), l[i] ≠ k) : decide (k ∈ l) = false := by
  apply decide_eq_false
  intro hm
  obtain ⟨i, hi, e⟩ := List.getElem_of_mem hm
  exact h i hi e
set_option maxRecDepth 100000 in
theorem rinI_any (k : Int) (l : List Int) (A : Option Addr) (c B : Nat) (w : World) (h : Ints w B A l) (hl : l.length ≤ maxLen) :
    Calls Try.prog 83 #[.int .i64 k, .slice A l.length c] w fun e w' => e = .returned (.bool (decide (k ∈ l))) ∧ w = w' := by
  unfold maxLen at hl
  go_enter Try.func83, Try.ntmps83
  go_wp2
  go_loop [5] (fun i => ∃ j : Nat, i = .int .i64 (j : Int) ∧ j ≤ l.length ∧ ∀ i (hi : i < l.length), i < j → l[i] ≠ k) (fun i => l.length - (intOf i).toNat)
  case atStart => exact ⟨0, rfl, by omega, fun i _ h => absurd h (by omega)⟩
  case round =>
    obtain ⟨j, rfl, hj, hno⟩ := hrel
    have HN := Lib.hid hno
    clear hno
    by_cases hlt : j < l.length
    · have hji : (j : Int) < (l.length : Int) := by omega
      obtain ⟨b, off, rfl, hbB, c0⟩ := Ints.at_ h hlt
      by_cases he : l[j] = k
      · have hb : (l[j] == k) = true := by simp [he]
        have HR := Lib.hid (mem_stop l k j hlt he)
        clear he
        go_wp2_with fail
        go_ret
        exact ⟨by rw [HR.out]; rfl, rfl⟩
      · have hb : (l[j] == k) = false := by simp [he]
        have HE := Lib.hid he
        clear he
        go_wp2_with fail
        go_round
        case rel => exact ⟨j + 1, by go_num, by omega, fun i hi h => by
          by_cases hij : i = j
          · subst hij; exact HE.out
          · exact HN.out i hi (by omega)⟩
        case measure => simp [intOf]; omega
    · have hji : ¬ (j : Int) < (l.length : Int) := by omega
      have HR := Lib.hid (mem_none l k fun i hi => HN.out i hi (by omega))
      go_wp2_with fail
      go_ret
      exact ⟨by rw [HR.out]; rfl, rfl⟩
set_option maxRecDepth 100000 in
theorem rweight_any (l : List Seat) (named : List Int) (A A' : Option Addr) (c c' B B' : Nat) (w : World) (h : Seats w B A l) (h' : Ints w B' A' named) (hl : l.length ≤ maxLen) (hl' : named.length ≤ maxLen) :
    Calls Try.prog 165 #[.slice A l.length c, .slice A' named.length c'] w fun e w' => e = .returned (.int .i64 (weightOf l named)) ∧ w = w' := by
  unfold maxLen at hl
  go_enter Try.func165, Try.ntmps165
  go_wp2
  go_loop [5, 6, 7] (fun n i _ => ∃ k : Nat, k ≤ l.length ∧ i = .int .i64 k ∧ n = .int .i64 (weightOf (l.take k) named)) (fun _ i _ => l.length - (intOf i).toNat)
  case atStart => exact ⟨0, by omega, rfl, rfl⟩
  case round =>
    obtain ⟨k, hk, rfl, rfl⟩ := hrel
    by_cases hlt : k < l.length
    · have hki : (k : Int) < (l.length : Int) := by omega
      obtain ⟨b, off, rfl, hbB, hc0, hc1⟩ := Seats.at_ h hlt
      have HS := Lib.hid (weightOf_snoc l named k hlt)
      by_cases hm : l[k].who ∈ named
      · have hd : decide (l[k].who ∈ named) = true := by simp [hm]
        have HM := Lib.hid hm
        clear hm
        generalize l[k] = s at *
        go_wp2_with fail
        refine (rinI_any s.who named A' c' B' w h' hl').mono ?_
        rintro e w1 ⟨rfl, rfl⟩
        rw [hd]
        go_wp2_with fail
        go_round
        case rel => exact ⟨k + 1, by omega, by go_num, by rw [HS.out, if_pos HM.out]⟩
        case measure => simp [intOf]; omega
      · have hd : decide (l[k].who ∈ named) = false := by simp [hm]
        have HM := Lib.hid hm
        clear hm
        generalize l[k] = s at *
        go_wp2_with fail
        refine (rinI_any s.who named A' c' B' w h' hl').mono ?_
        rintro e w1 ⟨rfl, rfl⟩
        rw [hd]
        go_wp2_with fail
        go_round
        case rel => exact ⟨k + 1, by omega, by go_num, by rw [HS.out, if_neg HM.out]⟩
        case measure => simp [intOf]; omega
    · have hki : ¬ (k : Int) < (l.length : Int) := by omega
      go_wp2_with fail
      go_ret
      exact ⟨ret_int (by rw [List.take_of_length_le (by omega)]), rfl⟩
set_option maxRecDepth 100000 in
theorem rquorum_any (l : List Seat) (named : List Int) (A A' : Option Addr) (c c' B B' : Nat) (w : World) (h : Seats w B A l) (h' : Ints w B' A' named) (hB : B ≤ w.heap.size) (hl : l.length ≤ maxLen) (hl' : named.length ≤ maxLen) :
    Calls Try.prog 102 #[.slice A l.length c, .slice A' named.length c'] w fun e w' => e = .returned (.bool (decide (wrap64 (2 * total l) < wrap64 (3 * weightOf l named)))) ∧ Below w.heap.size w w' := by
  go_enter Try.func102, Try.ntmps102
  go_wp2_with fail
  refine (rweight_any l named A A' c c' B B' w h h' hl hl').mono ?_
  rintro e w1 ⟨rfl, rfl⟩
  go_wp2_with fail
  refine (rtotal_any l A c B w h hB hl).mono ?_
  rintro e w1 ⟨rfl, hb1⟩
  go_wp2_with fail
  go_ret
  exact ⟨rfl, hb1⟩
end Go.Proofs.Ytjmkcndjjfokiaa
