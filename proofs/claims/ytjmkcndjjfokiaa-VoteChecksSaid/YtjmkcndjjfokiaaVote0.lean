/- Whether a bench has somebody; what those named weigh, by the reference; a quorum, by the reference. -/
import Derived.Test.YtjmkcndjjfokiaaProg
import Derived.Test.YtjmkcndjjfokiaaBench0
import Derived.Deep.QuietTactic
import Derived.BigQuiet
namespace Go.Proofs.Ytjmkcndjjfokiaa
open Go.RowKit
def hasB (l : List Seat) (who : Int) : Bool := l.any fun s => s.who == who
theorem hasB_stop (l : List Seat) (k : Int) (i : Nat) (h : i < l.length) (e : l[i].who = k) : hasB l k = true := by
  unfold hasB
  rw [List.any_eq_true]
  exact ⟨l[i], List.getElem_mem h, by simp [e]⟩
theorem hasB_none (l : List Seat) (k : Int) (h : ∀ i (hi : i < l.length), l[i].who ≠ k) : hasB l k = false := by
  unfold hasB
  rw [List.any_eq_false]
  intro x hx
  obtain ⟨i, hi, rfl⟩ := List.getElem_of_mem hx
  simpa using h i hi
set_option maxRecDepth 100000 in
theorem rhas_any (l : List Seat) (k : Int) (A : Option Addr) (c B : Nat) (w : World) (h : Seats w B A l) (hl : l.length ≤ maxLen) :
    Calls Try.prog 101 #[.slice A l.length c, .int .i64 k] w fun e w' => e = .returned (.bool (hasB l k)) ∧ w = w' := by
  unfold maxLen at hl
  go_enter Try.func101, Try.ntmps101
  go_wp2
  go_loop [5] (fun i => ∃ j : Nat, i = .int .i64 (j : Int) ∧ j ≤ l.length ∧ ∀ i (hi : i < l.length), i < j → l[i].who ≠ k) (fun i => l.length - (intOf i).toNat)
  case atStart => exact ⟨0, rfl, by omega, fun i _ h => absurd h (by omega)⟩
  case round =>
    obtain ⟨j, rfl, hj, hno⟩ := hrel
    have HN := Lib.hid hno
    clear hno
    by_cases hlt : j < l.length
    · have hji : (j : Int) < (l.length : Int) := by omega
      obtain ⟨b, off, rfl, hbB, c0, c1⟩ := Seats.at_ h hlt
      by_cases he : l[j].who = k
      · have hb : (l[j].who == k) = true := by simp [he]
        have HR := Lib.hid (hasB_stop l k j hlt he)
        clear he
        go_wp2_with fail
        go_ret
        exact ⟨by rw [HR.out]; rfl, rfl⟩
      · have hb : (l[j].who == k) = false := by simp [he]
        have HE := Lib.hid he
        clear he
        go_wp2_with fail
        go_round
        case rel => exact ⟨j + 1, by go_num, by omega, fun i hi h => by
          by_cases hij : i = j
          · subst hij; exact HE.out
          · exact HN.out i hi (by omega)⟩
        case measure => simp [intOf]; omega
    · have hji : ¬ (j : Int) < (l.length : Int) := by omega
      have HR := Lib.hid (hasB_none l k fun i hi => HN.out i hi (by omega))
      go_wp2_with fail
      go_ret
      exact ⟨by rw [HR.out]; rfl, rfl⟩
set_option maxRecDepth 100000 in
theorem has1_any (s : Seat) (x : Int) (q : Nat) (w : World) (hq : w.cell? ⟨q, 0, none⟩ = some (.int .i64 x)) (hlt : q < w.heap.size) :
    Calls Try.prog 161 #[.agg #[.int .i64 s.who, .int .i64 s.weight], .pointer (some ⟨q, 0, none⟩)] w fun e w' => e = .returned (.bool (s.who == x)) ∧ Below w.heap.size w w' := by
  have hc : (w.alloc (.cells #[.int .i64 s.who, .int .i64 s.weight] 165)).cell? ⟨q, 0, none⟩ = some (.int .i64 x) := (World.cell?_alloc_lt w _ ⟨q, 0, none⟩ hlt).trans hq
  go_enter Try.func161, Try.ntmps161
  go_wp2_with fail
  go_ret
  exact ⟨rfl, (Below.refl _ _).alloc (Nat.le_refl _) _⟩
def IdxIs (l : List Seat) (x : Int) (w : World) (e : Ending) (w' : World) : Prop := ∃ n : Int, e = .returned (.int .i64 n) ∧ decide (0 ≤ n) = hasB l x ∧ Below w.heap.size w w'
set_option maxRecDepth 100000 in
theorem idxF_any (l : List Seat) (x : Int) (A : Option Addr) (c B q : Nat) (w : World) (h : Seats w B A l) (hB : B ≤ w.heap.size) (hl : l.length ≤ maxLen) (hq : w.cell? ⟨q, 0, none⟩ = some (.int .i64 x)) (hqw : q < w.heap.size) :
    Calls Try.prog 215 #[.slice A l.length c, .func (.func 161) #[] #[.pointer (some ⟨q, 0, none⟩)]] w (IdxIs l x w) := by
  unfold maxLen at hl
  go_enter Try.func215, Try.ntmps215
  go_wp2
  go_loopw [5, 8] (fun _ i wr => ∃ j : Nat, i = .int .i64 (j : Int) ∧ j ≤ l.length ∧ (∀ i (hi : i < l.length), i < j → l[i].who ≠ x) ∧ Below w.heap.size w wr) (fun _ i _ => l.length - (intOf i).toNat)
  case atStart => exact ⟨0, rfl, by omega, fun i _ h => absurd h (by omega), Below.refl _ _⟩
  case round =>
    obtain ⟨j, rfl, hj, hno, hb⟩ := hrel
    have HN := Lib.hid hno
    clear hno
    have hsz := hb.size
    by_cases hlt : j < l.length
    · have hji : (j : Int) < (l.length : Int) := by omega
      obtain ⟨b, off, rfl, hbB, c0, c1⟩ := Seats.at_ (h.below (hb.mono hB)) hlt
      have hq1 := (hb.cell (p := ⟨q, 0, none⟩) hqw).trans hq
      by_cases he : l[j].who = x
      · have hbb : (l[j].who == x) = true := by simp [he]
        have HR := Lib.hid (hasB_stop l x j hlt he)
        clear he
        go_wp2_with fail
        refine (has1_any l[j] x q wr hq1 (by omega)).mono ?_
        rintro e w1 ⟨rfl, hb1⟩
        rw [hbb]
        go_wp2_with fail
        go_ret
        exact ⟨_, rfl, by rw [HR.out]; exact decide_eq_true (by omega), hb.trans (hb1.mono hsz)⟩
      · have hbb : (l[j].who == x) = false := by simp [he]
        have HE := Lib.hid he
        clear he
        go_wp2_with fail
        refine (has1_any l[j] x q wr hq1 (by omega)).mono ?_
        rintro e w1 ⟨rfl, hb1⟩
        rw [hbb]
        go_wp2_with fail
        go_roundw
        case rel => exact ⟨j + 1, by go_num, by omega, fun i hi h => by
          by_cases hij : i = j
          · subst hij; exact HE.out
          · exact HN.out i hi (by omega), hb.trans (hb1.mono hsz)⟩
        case measure => simp [intOf]; omega
    · have hji : ¬ (j : Int) < (l.length : Int) := by omega
      have HR := Lib.hid (hasB_none l x fun i hi => HN.out i hi (by omega))
      go_wp2_with fail
      go_ret
      exact ⟨_, rfl, by rw [HR.out]; rfl, hb⟩
set_option maxRecDepth 100000 in
theorem containsF_any (l : List Seat) (x : Int) (A : Option Addr) (c B q : Nat) (w : World) (h : Seats w B A l) (hB : B ≤ w.heap.size) (hl : l.length ≤ maxLen) (hq : w.cell? ⟨q, 0, none⟩ = some (.int .i64 x)) (hqw : q < w.heap.size) :
    Calls Try.prog 160 #[.slice A l.length c, .func (.func 161) #[] #[.pointer (some ⟨q, 0, none⟩)]] w fun e w' => e = .returned (.bool (hasB l x)) ∧ Below w.heap.size w w' := by
  go_enter Try.func160, Try.ntmps160
  go_wp2_with fail
  refine (idxF_any l x A c B q w h hB hl hq hqw).mono ?_
  rintro e w1 ⟨n, rfl, hn, hb1⟩
  have HN := Lib.hid hn
  clear hn
  go_wp2_with fail
  go_ret
  exact ⟨ret_bool HN.out, hb1⟩
set_option maxRecDepth 100000 in
theorem has_any (l : List Seat) (x : Int) (A : Option Addr) (c B : Nat) (w : World) (h : Seats w B A l) (hB : B ≤ w.heap.size) (hl : l.length ≤ maxLen) :
    Calls Try.prog 98 #[.slice A l.length c, .int .i64 x] w fun e w' => e = .returned (.bool (hasB l x)) ∧ Below w.heap.size w w' := by
  go_enter Try.func98, Try.ntmps98
  go_wp2_with fail
  refine (containsF_any l x A c B w.heap.size _ (h.alloc hB _) (by simp; omega) hl (by rw [World.cell?_alloc_mark]; rfl) (by simp)).mono ?_
  rintro e w1 ⟨rfl, hb1⟩
  go_wp2_with fail
  go_ret
  exact ⟨rfl, ((Below.refl _ _).alloc (Nat.le_refl _) _).trans (hb1.mono (by simp))⟩
end Go.Proofs.Ytjmkcndjjfokiaa
