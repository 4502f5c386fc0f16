/- Of the texts Bench0, Vote0, Vote1. -/
import Derived.Test.YtlfonmpgenoooaaProg
import Derived.Test.YtlfonmpgenoooaaG01
import Derived.BigGuardPart
import Derived.Deep.QuietTactic
import Derived.BigQuiet
set_option linter.unusedSimpArgs false
set_option linter.unusedVariables false
namespace Go.Proofs.Ytlfonmpgenoooaa
open Go.RowKit
structure Seat where
 who : Int
 weight : Int
deriving DecidableEq, Repr
def seatCells (s : Seat) : List Value := [.int .i64 s.who, .int .i64 s.weight]
def seatsCells (l : List Seat) : List Value := l.flatMap seatCells
theorem seatsCells_at (l : List Seat) (k j : Nat) (hj : j < 2) : (seatsCells l)[k * 2 + j]? = (l[k]?).bind fun x => (seatCells x)[j]? := flatMap_two seatCells (fun _ => rfl) l k j hj
theorem seatsCells_length (l : List Seat) : (seatsCells l).length = l.length * 2 := by
 induction l with
 | nil => rfl
 | cons x l ih => simp [seatsCells, seatCells] at ih ⊢; omega
theorem seatsCells_one (l : List Seat) : ∀ u ∈ seatsCells l, u.oneCell' = true := by
 intro u hu; simp only [seatsCells, List.mem_flatMap] at hu; obtain ⟨s, _, hs⟩ := hu; simp [seatCells] at hs
 rcases hs with rfl | rfl <;> rfl
theorem seatsCells_take (l : List Seat) (k : Nat) : (seatsCells l).take (k * 2) = seatsCells (l.take k) := by
 induction l generalizing k with
 | nil => simp [seatsCells]
 | cons x l ih =>
  cases k with
  | zero => simp [seatsCells]
  | succ k =>
   have e : (k + 1) * 2 = k * 2 + 2 := by omega
   have := ih k; simp only [seatsCells] at this ⊢
   rw [e, List.take_succ_cons, List.flatMap_cons, List.flatMap_cons, ← this]; simp [seatCells]
theorem seatsCells_drop (l : List Seat) (k : Nat) : (seatsCells l).drop (k * 2) = seatsCells (l.drop k) := by
 induction l generalizing k with
 | nil => simp [seatsCells]
 | cons x l ih =>
  cases k with
  | zero => simp [seatsCells]
  | succ k =>
   have e : (k + 1) * 2 = k * 2 + 2 := by omega
   have := ih k; simp only [seatsCells] at this ⊢
   rw [e, List.drop_succ_cons, List.flatMap_cons, ← this]; simp [seatCells]
theorem seatsCells_append (l m : List Seat) : seatsCells (l ++ m) = seatsCells l ++ seatsCells m := by simp [seatsCells]
def Seats (w : World) (B : Nat) (A : Option Addr) (l : List Seat) : Prop := Rd w B 2 A l.length (seatsCells l)
theorem Seats.at_ {w : World} {B : Nat} {A : Option Addr} {l : List Seat} (h : Seats w B A l) {k : Nat} (hk : k < l.length) :
  ∃ b off, A = some ⟨b, off, none⟩ ∧ b < B ∧ w.cell? ⟨b, off + k * 2, none⟩ = some (.int .i64 l[k].who) ∧ w.cell? ⟨b, off + k * 2 + 1, none⟩ = some (.int .i64 l[k].weight) := by
 obtain ⟨b, off, u, rfl, hb, hx, hc⟩ := Rd.at_ (j := 0) h hk (by omega); obtain ⟨b', off', u', e, _, hx', hc'⟩ := Rd.at_ (j := 1) h hk (by omega); simp only [Option.some.injEq, Addr.mk.injEq, and_true] at e; obtain ⟨rfl, rfl⟩ := e; rw [seatsCells_at _ _ _ (by omega), List.getElem?_eq_getElem hk] at hx hx'; simp [seatCells] at hx hx'; subst hx; subst hx'; exact ⟨b, off, rfl, hb, by simpa using hc, by simpa [Nat.add_assoc] using hc'⟩
def total (l : List Seat) : Int := l.foldl (fun a s => wrap64 (a + s.weight)) 0
theorem total_snoc (l : List Seat) (k : Nat) (hk : k < l.length) : total (l.take (k + 1)) = wrap64 (total (l.take k) + l[k].weight) := by
 unfold total; rw [List.take_succ_eq_append_getElem hk, List.foldl_append]; rfl
set_option maxRecDepth 100000 in
theorem total_any (l : List Seat) (A : Option Addr) (c B : Nat) (w : World) (h : Seats w B A l) (hB : B ≤ w.heap.size) (hl : l.length ≤ maxLen) :
  Calls Try.prog 14 #[.slice A l.length c] w fun e w' => e = .returned (.int .i64 (total l)) ∧ Below w.heap.size w w' := by
 unfold maxLen at hl; go_enter Try.func14, Try.ntmps14; go_wp2
 go_loopw [3, 5, 8] (fun n p i wr => ∃ k : Nat, k ≤ l.length ∧ i = .int .i64 k ∧ n = .int .i64 (total (l.take k)) ∧ Below w.heap.size w wr) (fun _ _ i _ => l.length - (intOf i).toNat)
 case atStart => exact ⟨0, by omega, rfl, rfl, Below.refl _ _⟩
 case round =>
  obtain ⟨k, hk, rfl, rfl, hb⟩ := hrel
  by_cases hlt : k < l.length
  ·obtain ⟨b, off, rfl, hbB, hc0, hc1⟩ := Seats.at_ (h.below (hb.mono hB)) hlt; go_wp2
   go_roundw
   case rel => exact ⟨k + 1, by omega, by go_num, by rw [total_snoc l k hlt], hb.alloc hb.size _⟩
   case measure => simp [intOf]; omega
  ·go_wp2; go_ret; exact ⟨ret_int (by rw [List.take_of_length_le (by omega)]), hb⟩
set_option maxRecDepth 100000 in
theorem rtotal_any (l : List Seat) (A : Option Addr) (c B : Nat) (w : World) (h : Seats w B A l) (hB : B ≤ w.heap.size) (hl : l.length ≤ maxLen) :
  Calls Try.prog 15 #[.slice A l.length c] w fun e w' => e = .returned (.int .i64 (total l)) ∧ Below w.heap.size w w' := by
 unfold maxLen at hl; go_enter Try.func15, Try.ntmps15; go_wp2
 go_loopw [3, 4] (fun n i wr => ∃ k : Nat, k ≤ l.length ∧ i = .int .i64 k ∧ n = .int .i64 (total (l.take k)) ∧ Below w.heap.size w wr) (fun _ i _ => l.length - (intOf i).toNat)
 case atStart => exact ⟨0, by omega, rfl, rfl, Below.refl _ _⟩
 case round =>
  obtain ⟨k, hk, rfl, rfl, hb⟩ := hrel
  by_cases hlt : k < l.length
  ·obtain ⟨b, off, rfl, hbB, hc0, hc1⟩ := Seats.at_ (h.below (hb.mono hB)) hlt; go_wp2
   go_roundw
   case rel => exact ⟨k + 1, by omega, by go_num, by rw [total_snoc l k hlt], hb⟩
   case measure => simp [intOf]; omega
  ·go_wp2; go_ret; exact ⟨ret_int (by rw [List.take_of_length_le (by omega)]), hb⟩
def Ints (w : World) (B : Nat) (A : Option Addr) (l : List Int) : Prop := Rd w B 1 A l.length (l.map (Value.int .i64))
theorem Ints.at_ {w : World} {B : Nat} {A : Option Addr} {l : List Int} (h : Ints w B A l) {k : Nat} (hk : k < l.length) :
  ∃ b off, A = some ⟨b, off, none⟩ ∧ b < B ∧ w.cell? ⟨b, off + k, none⟩ = some (.int .i64 l[k]) := by
 obtain ⟨b, off, u, rfl, hb, hx, hc⟩ := Rd.at_ (j := 0) h hk (by omega); simp [List.getElem?_eq_getElem hk] at hx; subst hx; exact ⟨b, off, rfl, hb, by simpa using hc⟩
def idx (l : List Int) (x : Int) : Int := if x ∈ l then (l.idxOf x : Nat) else -1
theorem idx_found (l : List Int) (x : Int) (k : Nat) (hk : k < l.length) (hne : ∀ j (_ : j < k) (hj : j < l.length), x ≠ l[j]) (h : x = l[k]) : idx l x = k := by
 unfold idx; have hm : x ∈ l := h ▸ List.getElem_mem hk; rw [if_pos hm]
 congr 1
 have h1 : l.idxOf x < l.length := List.idxOf_lt_length_iff.2 hm; have h2 : l[l.idxOf x] = x := List.getElem_idxOf h1
 rcases Nat.lt_trichotomy (l.idxOf x) k with h3 | h3 | h3
 ·exact absurd h2.symm (hne _ h3 h1)
 ·exact h3
 ·have := List.not_of_lt_findIdx (p := fun y => y == x) (xs := l) (i := k) h3; simp [h] at this
theorem idx_none (l : List Int) (x : Int) (hne : ∀ j (hj : j < l.length), x ≠ l[j]) : idx l x = -1 := by
 unfold idx; rw [if_neg]; intro hm; obtain ⟨j, hj, e⟩ := List.getElem_of_mem hm; exact hne j hj e.symm
theorem idx_mem (l : List Int) (x : Int) : decide (0 ≤ idx l x) = decide (x ∈ l) := by
 unfold idx
 by_cases h : x ∈ l <;> simp [h]
set_option maxRecDepth 100000 in
theorem index_any (l : List Int) (x : Int) (A : Option Addr) (c B : Nat) (w : World) (h : Ints w B A l) (hB : B ≤ w.heap.size) (hl : l.length ≤ maxLen) :
  Calls Try.prog 55 #[.slice A l.length c, .int .i64 x] w fun e w' => e = .returned (.int .i64 (idx l x)) ∧ w = w' := by
 unfold maxLen at hl; go_enter Try.func55, Try.ntmps55; go_wp2
 go_loop [5, 8] (fun n i => ∃ k : Nat, k ≤ l.length ∧ i = .int .i64 k ∧ ∀ j (_ : j < k) (hj : j < l.length), x ≠ l[j]) (fun _ i => l.length - (intOf i).toNat)
 case atStart => exact ⟨0, by omega, rfl, fun j hj => absurd hj (by omega)⟩
 case round =>
  obtain ⟨k, hk, rfl, hne⟩ := hrel; have Hne := Lib.hid hne; clear hne
  by_cases hlt : k < l.length
  ·obtain ⟨b, off, rfl, hbB, hc0⟩ := Ints.at_ h hlt
   by_cases hx : x = l[k]
   ·have hb : (x == l[k]) = true := by simp [hx]
    have HX := Lib.hid hx; clear hx; go_wp2; go_ret; exact ⟨ret_int (by rw [idx_found l x k hlt Hne.out HX.out]), rfl⟩
   ·have hb : (x == l[k]) = false := by simp [hx]
    have HX := Lib.hid hx; clear hx; go_wp2
    go_round
    case rel =>
     refine ⟨k + 1, by omega, by go_num, fun j hj hjl => ?_⟩
     by_cases e : j = k
     ·subst e; exact HX.out
     ·exact Hne.out j (by omega) hjl
    case measure => simp [intOf]; omega
  ·go_wp2; go_ret; exact ⟨ret_int (by rw [idx_none l x (fun j hj => Hne.out j (by omega) hj)]), rfl⟩
set_option maxRecDepth 100000 in
theorem contains_any (l : List Int) (x : Int) (A : Option Addr) (c B : Nat) (w : World) (h : Ints w B A l) (hB : B ≤ w.heap.size) (hl : l.length ≤ maxLen) :
  Calls Try.prog 37 #[.slice A l.length c, .int .i64 x] w fun e w' => e = .returned (.bool (decide (x ∈ l))) ∧ w = w' := by
 have HE := Lib.hid (idx_mem l x); go_enter Try.func37, Try.ntmps37
 go_wp2_with (go_at_call 55; refine (index_any l x A c B w h hB hl).mono ?_; rintro e w' ⟨rfl, rfl⟩); go_ret; exact ⟨ret_bool HE.out, rfl⟩
def weightOf (l : List Seat) (named : List Int) : Int := l.foldl (fun a s => if s.who ∈ named then wrap64 (a + s.weight) else a) 0
theorem weightOf_snoc (l : List Seat) (named : List Int) (k : Nat) (hk : k < l.length) : weightOf (l.take (k + 1)) named = if l[k].who ∈ named then wrap64 (weightOf (l.take k) named + l[k].weight) else weightOf (l.take k) named := by
 unfold weightOf; rw [List.take_succ_eq_append_getElem hk, List.foldl_append]; rfl
set_option maxRecDepth 100000 in
theorem weight_any (l : List Seat) (named : List Int) (A A' : Option Addr) (c c' B : Nat) (w : World) (h : Seats w B A l) (h' : Ints w B A' named) (hB : B ≤ w.heap.size) (hl : l.length ≤ maxLen) (hl' : named.length ≤ maxLen) :
  Calls Try.prog 16 #[.slice A l.length c, .slice A' named.length c'] w fun e w' => e = .returned (.int .i64 (weightOf l named)) ∧ Below w.heap.size w w' := by
 have hlm := hl; unfold maxLen at hl; go_enter Try.func16, Try.ntmps16; go_wp2
 go_loopw [5, 7, 10] (fun n p i wr => ∃ k : Nat, k ≤ l.length ∧ i = .int .i64 k ∧ n = .int .i64 (weightOf (l.take k) named) ∧ Below w.heap.size w wr) (fun _ _ i _ => l.length - (intOf i).toNat)
 case atStart => exact ⟨0, by omega, rfl, rfl, Below.refl _ _⟩
 case round =>
  obtain ⟨k, hk, rfl, rfl, hb⟩ := hrel
  by_cases hlt : k < l.length
  ·obtain ⟨b, off, rfl, hbB, hc0, hc1⟩ := Seats.at_ (h.below (hb.mono hB)) hlt; have hsz := hb.size
   by_cases hm : l[k].who ∈ named
   ·have hd : decide (l[k].who ∈ named) = true := by simp [hm]
    have HM := Lib.hid hm; clear hm
    go_wp2_with (go_at_call 37; refine (contains_any named _ A' c' B _ (by first | exact (Rd.below h' (hb.mono hB)).alloc (by omega) _) (by simp; omega) hl').mono ?_; rintro e w' ⟨rfl, rfl⟩)
    go_roundw
    case rel => exact ⟨k + 1, by omega, by go_num, by rw [weightOf_snoc l named k hlt, if_pos HM.out], hb.alloc hb.size _⟩
    case measure => simp [intOf]; omega
   ·have hd : decide (l[k].who ∈ named) = false := by simp [hm]
    have HM := Lib.hid hm; clear hm
    go_wp2_with (go_at_call 37; refine (contains_any named _ A' c' B _ (by first | exact (Rd.below h' (hb.mono hB)).alloc (by omega) _) (by simp; omega) hl').mono ?_; rintro e w' ⟨rfl, rfl⟩)
    go_roundw
    case rel => exact ⟨k + 1, by omega, by go_num, by rw [weightOf_snoc l named k hlt, if_neg HM.out], hb.alloc hb.size _⟩
    case measure => simp [intOf]; omega
  ·go_wp2; go_ret; exact ⟨ret_int (by rw [List.take_of_length_le (by omega)]), hb⟩
set_option maxRecDepth 100000 in
theorem quorum_any (l : List Seat) (named : List Int) (A A' : Option Addr) (c c' B : Nat) (w : World) (h : Seats w B A l) (h' : Ints w B A' named) (hB : B ≤ w.heap.size) (hl : l.length ≤ maxLen) (hl' : named.length ≤ maxLen) :
    Calls Try.prog 18 #[.slice A l.length c, .slice A' named.length c'] w fun e w' => e = .returned (.bool (decide (wrap64 (2 * total l) < wrap64 (3 * weightOf l named)))) ∧ Below w.heap.size w w' := by
  go_enter Try.func18, Try.ntmps18
  go_wp2_with (first
    | (go_at_call 16; refine (weight_any l named A A' c c' B _ h h' hB hl hl').mono ?_; rintro e w1 ⟨rfl, hb1⟩)
    | (go_at_call 14; refine (total_any l A c B _ (Rd.below h (hb1.mono hB)) (Nat.le_trans hB hb1.size) hl).mono ?_; rintro e w2 ⟨rfl, hb2⟩))
  go_ret
  exact ⟨rfl, hb1.trans (hb2.mono hb1.size)⟩
set_option maxRecDepth 100000 in
theorem some_any (l : List Seat) (named : List Int) (A A' : Option Addr) (c c' B : Nat) (w : World) (h : Seats w B A l) (h' : Ints w B A' named) (hB : B ≤ w.heap.size) (hl : l.length ≤ maxLen) (hl' : named.length ≤ maxLen) :
    Calls Try.prog 20 #[.slice A l.length c, .slice A' named.length c'] w fun e w' => e = .returned (.bool (decide (total l < wrap64 (3 * weightOf l named)))) ∧ Below w.heap.size w w' := by
  go_enter Try.func20, Try.ntmps20
  go_wp2_with (first
    | (go_at_call 16; refine (weight_any l named A A' c c' B _ h h' hB hl hl').mono ?_; rintro e w1 ⟨rfl, hb1⟩)
    | (go_at_call 14; refine (total_any l A c B _ (Rd.below h (hb1.mono hB)) (Nat.le_trans hB hb1.size) hl).mono ?_; rintro e w2 ⟨rfl, hb2⟩))
  go_ret
  exact ⟨rfl, hb1.trans (hb2.mono hb1.size)⟩
def seatOk (s : Seat) : Bool := decide (1 ≤ s.who) && decide (s.who ≤ 1099511627775) && decide (1 ≤ s.weight) && decide (s.weight ≤ 1099511627775)
set_option maxRecDepth 100000 in
theorem seatMay_any (s : Seat) (w : World) : Calls Try.prog 28 #[.agg #[.int .i64 s.who, .int .i64 s.weight]] w fun e w' => e = .returned (.bool (seatOk s)) ∧ Below w.heap.size w w' := by
 go_enter Try.func28, Try.ntmps28; go_wp2
 all_goals
  go_ret; exact ⟨ret_bool (by simp [seatOk, *] <;> omega), (Below.refl _ _).alloc (Nat.le_refl _) _⟩
set_option maxRecDepth 100000 in
theorem seat_any (s : Seat) (w : World) : Calls Try.prog 22 #[.agg #[.int .i64 s.who, .int .i64 s.weight]] w fun e w' => e = .returned (.bool (seatOk s)) ∧ Below w.heap.size w w' := by
 go_enter Try.func22, Try.ntmps22; go_wp2
 all_goals
  go_ret; exact ⟨ret_bool (by simp [seatOk, *] <;> omega), (Below.refl _ _).alloc (Nat.le_refl _) _⟩
def fitsFrom (last : Int) : List Seat → Bool
 | [] => true
 | s :: l => seatOk s && decide (last < s.who) && fitsFrom s.who l
def fits (l : List Seat) : Bool := fitsFrom 0 l && decide (1 ≤ l.length) && decide (l.length ≤ 7)
theorem drop_cons {α : Type} (l : List α) (k : Nat) (hk : k < l.length) : l.drop k = l[k] :: l.drop (k + 1) := List.drop_eq_getElem_cons hk
set_option maxRecDepth 100000 in
theorem fits_any (l : List Seat) (A : Option Addr) (c B : Nat) (w : World) (h : Seats w B A l) (hB : B ≤ w.heap.size) (hl : l.length ≤ maxLen) :
  Calls Try.prog 7 #[.slice A l.length c] w fun e w' => e = .returned (.bool (fits l)) ∧ Below w.heap.size w w' := by
 unfold maxLen at hl; go_enter Try.func7, Try.ntmps7; go_wp2
 go_loopw [3, 5, 8] (fun n p i wr => ∃ (k : Nat) (last : Int), k ≤ l.length ∧ i = .int .i64 k ∧ n = .int .i64 last ∧ fitsFrom 0 l = fitsFrom last (l.drop k) ∧ Below w.heap.size w wr) (fun _ _ i _ => l.length - (intOf i).toNat)
 case atStart => exact ⟨0, 0, by omega, rfl, rfl, rfl, Below.refl _ _⟩
 case round =>
  obtain ⟨k, last, hk, rfl, rfl, hf, hb⟩ := hrel; have HF := Lib.hid hf; clear hf
  by_cases hlt : k < l.length
  ·obtain ⟨b, off, rfl, hbB, hc0, hc1⟩ := Seats.at_ (h.below (hb.mono hB)) hlt; have HD := Lib.hid (drop_cons l k hlt)
   go_wp2_with (go_at_call 22; refine (seat_any l[k] _).mono ?_; rintro e w1 ⟨rfl, hb1⟩; have hp := cell_laid hb1 (by simp) 0 _ rfl; have hB1 := (hb.alloc hb.size (.cells #[.int .i64 l[k].who, .int .i64 l[k].weight] 38)).trans (hb1.mono (by have := hb.size; simp; omega)))
   ·go_ret; refine ⟨ret_bool ?_, hB1⟩; have h1 : seatOk l[k] = false := by assumption
    unfold fits; rw [HF.out, HD.out]; simp [fitsFrom, h1]
   ·go_ret; refine ⟨ret_bool ?_, hB1⟩; have h1 : seatOk l[k] = true := by assumption
    unfold fits; rw [HF.out, HD.out]; simp [fitsFrom, h1]; omega
   ·go_roundw
    case rel =>
     refine ⟨k + 1, l[k].who, by omega, by go_num, rfl, ?_, hB1⟩; have h1 : seatOk l[k] = true := by assumption
     rw [HF.out, HD.out]; simp [fitsFrom, h1]; omega
    case measure => simp [intOf]; omega
  ·have HN := Lib.hid (List.drop_eq_nil_of_le (show l.length ≤ k by omega)); go_wp2
   all_goals
    go_ret; refine ⟨ret_bool (Bool.eq_iff_iff.2 ?_), hb⟩; unfold fits; rw [HF.out, HN.out]; simp [fitsFrom] <;> omega
set_option maxRecDepth 100000 in
theorem rfits_any (l : List Seat) (A : Option Addr) (c B : Nat) (w : World) (h : Seats w B A l) (hB : B ≤ w.heap.size) (hl : l.length ≤ maxLen) :
  Calls Try.prog 8 #[.slice A l.length c] w fun e w' => e = .returned (.bool (fits l)) ∧ Below w.heap.size w w' := by
 unfold maxLen at hl; go_enter Try.func8, Try.ntmps8; go_wp2
 go_loopw [3, 4] (fun i o wr => ∃ (k : Nat), k ≤ l.length ∧ i = .int .i64 k ∧ fitsFrom 0 l = fitsFrom (if h : 0 < k ∧ k ≤ l.length then (l[k - 1]'(by omega)).who else 0) (l.drop k) ∧ Below w.heap.size w wr) (fun i _ _ => l.length - (intOf i).toNat)
 case atStart => exact ⟨0, by omega, rfl, rfl, Below.refl _ _⟩
 case round =>
  obtain ⟨k, hk, rfl, hf, hb⟩ := hrel; have HF := Lib.hid hf; clear hf
  by_cases hlt : k < l.length
  ·obtain ⟨b, off, rfl, hbB, hc0, hc1⟩ := Seats.at_ (h.below (hb.mono hB)) hlt; have HD := Lib.hid (drop_cons l k hlt)
   go_wp2_with (go_at_call 28; refine (seatMay_any l[k] _).mono ?_; rintro e w1 ⟨rfl, hb1⟩); have hB1 := hb.trans (hb1.mono hb.size); have hc0 := (hb1.cell (p := ⟨b, off + k * 2, none⟩) (by have := hb.size; simp; omega)).trans hc0; clear hc1 hb1; cases hs : seatOk l[k]
   ·go_quiet (fail)
    go_wp2; go_ret; refine ⟨ret_bool ?_, hB1.drewN _⟩; unfold fits; rw [HF.out, HD.out]; simp [fitsFrom, hs]
   ·by_cases hk0 : 0 < k
    ·have hk1 : (0 : Int) < (k : Int) := by omega
     obtain ⟨b', off', e, hbB', hd0, hd1⟩ := Seats.at_ (h.below (hB1.mono hB)) (show k - 1 < l.length by omega); simp only [Option.some.injEq, Addr.mk.injEq, and_true] at e; obtain ⟨rfl, rfl⟩ := e; have hw : IntKind.i64.wrap ((k : Int) - 1) = (k : Int) - 1 := IntWalk.i64_in _ (by omega); have ht : ((k : Int) - 1).toNat = k - 1 := by omega
     have hlo : (0 : Int) ≤ (k : Int) - 1 := by omega
     have hhi : (k : Int) - 1 < (l.length : Int) := by omega
     go_quiet (fail)
     go_wp2
     ·go_ret; refine ⟨ret_bool ?_, hB1.drewN _⟩; have h9 : decide (l[k - 1].who < l[k].who) = false := by simp; omega
      unfold fits; rw [HF.out, HD.out]; simp [fitsFrom, hs, hk0, hlt, Nat.le_of_lt hlt, h9]
     ·go_roundw
      case rel =>
       refine ⟨k + 1, by omega, by go_num, ?_, hB1.drewN _⟩; have h9 : decide (l[k - 1].who < l[k].who) = true := by simp; omega
       have h8 : k + 1 ≤ l.length := hlt; rw [HF.out, HD.out]; simp [fitsFrom, hs, hk0, h8, Nat.le_of_lt hlt, h9]
      case measure => simp [intOf]; omega
    ·have hk1 : decide ((0 : Int) < (k : Int)) = false := by simp; omega
     obtain rfl : k = 0 := by omega
     go_quiet (fail)
     go_wp2
     go_roundw
     case rel =>
      refine ⟨0 + 1, by omega, by go_num, ?_, hB1.drewN _⟩; rw [HF.out, HD.out]; have := hs; simp [seatOk] at this; have h8 : 1 ≤ l.length := hlt; simp [fitsFrom, hs, h8]; omega
     case measure => simp [intOf]; omega
  ·have HN := Lib.hid (List.drop_eq_nil_of_le (show l.length ≤ k by omega)); go_wp2
   all_goals
    go_ret; refine ⟨ret_bool (Bool.eq_iff_iff.2 ?_), hb⟩; unfold fits; rw [HF.out, HN.out]; simp [fitsFrom] <;> omega
def hasB (l : List Seat) (who : Int) : Bool := l.any fun s => s.who == who
theorem hasB_stop (l : List Seat) (k : Int) (i : Nat) (h : i < l.length) (e : l[i].who = k) : hasB l k = true := by
 unfold hasB; rw [List.any_eq_true]; exact ⟨l[i], List.getElem_mem h, by simp [e]⟩
theorem hasB_none (l : List Seat) (k : Int) (h : ∀ i (hi : i < l.length), l[i].who ≠ k) : hasB l k = false := by
 unfold hasB; rw [List.any_eq_false]; intro x hx; obtain ⟨i, hi, rfl⟩ := List.getElem_of_mem hx; simpa using h i hi
set_option maxRecDepth 100000 in
theorem rhas_any (l : List Seat) (k : Int) (A : Option Addr) (c B : Nat) (w : World) (h : Seats w B A l) (hl : l.length ≤ maxLen) :
  Calls Try.prog 10 #[.slice A l.length c, .int .i64 k] w fun e w' => e = .returned (.bool (hasB l k)) ∧ w = w' := by
 unfold maxLen at hl; go_enter Try.func10, Try.ntmps10; go_wp2
 go_loop [5] (fun i => ∃ j : Nat, i = .int .i64 (j : Int) ∧ j ≤ l.length ∧ ∀ i (hi : i < l.length), i < j → l[i].who ≠ k) (fun i => l.length - (intOf i).toNat)
 case atStart => exact ⟨0, rfl, by omega, fun i _ h => absurd h (by omega)⟩
 case round =>
  obtain ⟨j, rfl, hj, hno⟩ := hrel; have HN := Lib.hid hno; clear hno
  by_cases hlt : j < l.length
  ·have hji : (j : Int) < (l.length : Int) := by omega
   obtain ⟨b, off, rfl, hbB, c0, c1⟩ := Seats.at_ h hlt
   by_cases he : l[j].who = k
   ·have hb : (l[j].who == k) = true := by simp [he]
    have HR := Lib.hid (hasB_stop l k j hlt he); clear he; go_wp2_with fail; go_ret; exact ⟨by rw [HR.out]; rfl, rfl⟩
   ·have hb : (l[j].who == k) = false := by simp [he]
    have HE := Lib.hid he; clear he; go_wp2_with fail
    go_round
    case rel => exact ⟨j + 1, by go_num, by omega, fun i hi h => by
     by_cases hij : i = j
     ·subst hij; exact HE.out
     ·exact HN.out i hi (by omega)⟩
    case measure => simp [intOf]; omega
  ·have hji : ¬ (j : Int) < (l.length : Int) := by omega
   have HR := Lib.hid (hasB_none l k fun i hi => HN.out i hi (by omega)); go_wp2_with fail; go_ret; exact ⟨by rw [HR.out]; rfl, rfl⟩
set_option maxRecDepth 100000 in
theorem has1_any (s : Seat) (x : Int) (q : Nat) (w : World) (hq : w.cell? ⟨q, 0, none⟩ = some (.int .i64 x)) (hlt : q < w.heap.size) :
  Calls Try.prog 31 #[.agg #[.int .i64 s.who, .int .i64 s.weight], .pointer (some ⟨q, 0, none⟩)] w fun e w' => e = .returned (.bool (s.who == x)) ∧ Below w.heap.size w w' := by
 have hc : (w.alloc (.cells #[.int .i64 s.who, .int .i64 s.weight] 38)).cell? ⟨q, 0, none⟩ = some (.int .i64 x) := (World.cell?_alloc_lt w _ ⟨q, 0, none⟩ hlt).trans hq; go_enter Try.func31, Try.ntmps31
 go_wp2_with fail; go_ret; exact ⟨rfl, (Below.refl _ _).alloc (Nat.le_refl _) _⟩
def IdxIs (l : List Seat) (x : Int) (w : World) (e : Ending) (w' : World) : Prop := ∃ n : Int, e = .returned (.int .i64 n) ∧ decide (0 ≤ n) = hasB l x ∧ Below w.heap.size w w'
set_option maxRecDepth 100000 in
theorem idxF_any (l : List Seat) (x : Int) (A : Option Addr) (c B q : Nat) (w : World) (h : Seats w B A l) (hB : B ≤ w.heap.size) (hl : l.length ≤ maxLen) (hq : w.cell? ⟨q, 0, none⟩ = some (.int .i64 x)) (hqw : q < w.heap.size) :
  Calls Try.prog 44 #[.slice A l.length c, .func (.func 31) #[] #[.pointer (some ⟨q, 0, none⟩)]] w (IdxIs l x w) := by
 unfold maxLen at hl; go_enter Try.func44, Try.ntmps44; go_wp2
 go_loopw [5, 8] (fun _ i wr => ∃ j : Nat, i = .int .i64 (j : Int) ∧ j ≤ l.length ∧ (∀ i (hi : i < l.length), i < j → l[i].who ≠ x) ∧ Below w.heap.size w wr) (fun _ i _ => l.length - (intOf i).toNat)
 case atStart => exact ⟨0, rfl, by omega, fun i _ h => absurd h (by omega), Below.refl _ _⟩
 case round =>
  obtain ⟨j, rfl, hj, hno, hb⟩ := hrel; have HN := Lib.hid hno; clear hno; have hsz := hb.size
  by_cases hlt : j < l.length
  ·have hji : (j : Int) < (l.length : Int) := by omega
   obtain ⟨b, off, rfl, hbB, c0, c1⟩ := Seats.at_ (h.below (hb.mono hB)) hlt; have hq1 := (hb.cell (p := ⟨q, 0, none⟩) hqw).trans hq
   by_cases he : l[j].who = x
   ·have hbb : (l[j].who == x) = true := by simp [he]
    have HR := Lib.hid (hasB_stop l x j hlt he); clear he; go_wp2_with fail; refine (has1_any l[j] x q wr hq1 (by omega)).mono ?_; rintro e w1 ⟨rfl, hb1⟩; rw [hbb]; go_wp2_with fail; go_ret; exact ⟨_, rfl, by rw [HR.out]; exact decide_eq_true (by omega), hb.trans (hb1.mono hsz)⟩
   ·have hbb : (l[j].who == x) = false := by simp [he]
    have HE := Lib.hid he; clear he; go_wp2_with fail; refine (has1_any l[j] x q wr hq1 (by omega)).mono ?_; rintro e w1 ⟨rfl, hb1⟩; rw [hbb]; go_wp2_with fail
    go_roundw
    case rel => exact ⟨j + 1, by go_num, by omega, fun i hi h => by
     by_cases hij : i = j
     ·subst hij; exact HE.out
     ·exact HN.out i hi (by omega), hb.trans (hb1.mono hsz)⟩
    case measure => simp [intOf]; omega
  ·have hji : ¬ (j : Int) < (l.length : Int) := by omega
   have HR := Lib.hid (hasB_none l x fun i hi => HN.out i hi (by omega)); go_wp2_with fail; go_ret; exact ⟨_, rfl, by rw [HR.out]; rfl, hb⟩
set_option maxRecDepth 100000 in
theorem containsF_any (l : List Seat) (x : Int) (A : Option Addr) (c B q : Nat) (w : World) (h : Seats w B A l) (hB : B ≤ w.heap.size) (hl : l.length ≤ maxLen) (hq : w.cell? ⟨q, 0, none⟩ = some (.int .i64 x)) (hqw : q < w.heap.size) :
  Calls Try.prog 30 #[.slice A l.length c, .func (.func 31) #[] #[.pointer (some ⟨q, 0, none⟩)]] w fun e w' => e = .returned (.bool (hasB l x)) ∧ Below w.heap.size w w' := by
 go_enter Try.func30, Try.ntmps30; go_wp2_with fail; refine (idxF_any l x A c B q w h hB hl hq hqw).mono ?_; rintro e w1 ⟨n, rfl, hn, hb1⟩; have HN := Lib.hid hn; clear hn; go_wp2_with fail; go_ret; exact ⟨ret_bool HN.out, hb1⟩
set_option maxRecDepth 100000 in
theorem has_any (l : List Seat) (x : Int) (A : Option Addr) (c B : Nat) (w : World) (h : Seats w B A l) (hB : B ≤ w.heap.size) (hl : l.length ≤ maxLen) :
  Calls Try.prog 9 #[.slice A l.length c, .int .i64 x] w fun e w' => e = .returned (.bool (hasB l x)) ∧ Below w.heap.size w w' := by
 go_enter Try.func9, Try.ntmps9; go_wp2_with fail; refine (containsF_any l x A c B w.heap.size _ (h.alloc hB _) (by simp; omega) hl (by rw [World.cell?_alloc_mark]; rfl) (by simp)).mono ?_; rintro e w1 ⟨rfl, hb1⟩; go_wp2_with fail; go_ret; exact ⟨rfl, ((Below.refl _ _).alloc (Nat.le_refl _) _).trans (hb1.mono (by simp))⟩
theorem mem_stop (l : List Int) (k : Int) (i : Nat) (h : i < l.length) (e : l[i] = k) : decide (k ∈ l) = true := decide_eq_true (e ▸ List.getElem_mem h)
theorem mem_none (l : List Int) (k : Int) (h : ∀ i (hi : i < l.length), l[i] ≠ k) : decide (k ∈ l) = false := by
 apply decide_eq_false; intro hm; obtain ⟨i, hi, e⟩ := List.getElem_of_mem hm; exact h i hi e
set_option maxRecDepth 100000 in
theorem rinI_any (k : Int) (l : List Int) (A : Option Addr) (c B : Nat) (w : World) (h : Ints w B A l) (hl : l.length ≤ maxLen) :
  Calls Try.prog 38 #[.int .i64 k, .slice A l.length c] w fun e w' => e = .returned (.bool (decide (k ∈ l))) ∧ w = w' := by
 unfold maxLen at hl; go_enter Try.func38, Try.ntmps38; go_wp2
 go_loop [5] (fun i => ∃ j : Nat, i = .int .i64 (j : Int) ∧ j ≤ l.length ∧ ∀ i (hi : i < l.length), i < j → l[i] ≠ k) (fun i => l.length - (intOf i).toNat)
 case atStart => exact ⟨0, rfl, by omega, fun i _ h => absurd h (by omega)⟩
 case round =>
  obtain ⟨j, rfl, hj, hno⟩ := hrel; have HN := Lib.hid hno; clear hno
  by_cases hlt : j < l.length
  ·have hji : (j : Int) < (l.length : Int) := by omega
   obtain ⟨b, off, rfl, hbB, c0⟩ := Ints.at_ h hlt
   by_cases he : l[j] = k
   ·have hb : (l[j] == k) = true := by simp [he]
    have HR := Lib.hid (mem_stop l k j hlt he); clear he; go_wp2_with fail; go_ret; exact ⟨by rw [HR.out]; rfl, rfl⟩
   ·have hb : (l[j] == k) = false := by simp [he]
    have HE := Lib.hid he; clear he; go_wp2_with fail
    go_round
    case rel => exact ⟨j + 1, by go_num, by omega, fun i hi h => by
     by_cases hij : i = j
     ·subst hij; exact HE.out
     ·exact HN.out i hi (by omega)⟩
    case measure => simp [intOf]; omega
  ·have hji : ¬ (j : Int) < (l.length : Int) := by omega
   have HR := Lib.hid (mem_none l k fun i hi => HN.out i hi (by omega)); go_wp2_with fail; go_ret; exact ⟨by rw [HR.out]; rfl, rfl⟩
set_option maxRecDepth 100000 in
theorem rweight_any (l : List Seat) (named : List Int) (A A' : Option Addr) (c c' B B' : Nat) (w : World) (h : Seats w B A l) (h' : Ints w B' A' named) (hl : l.length ≤ maxLen) (hl' : named.length ≤ maxLen) :
  Calls Try.prog 17 #[.slice A l.length c, .slice A' named.length c'] w fun e w' => e = .returned (.int .i64 (weightOf l named)) ∧ w = w' := by
 unfold maxLen at hl; go_enter Try.func17, Try.ntmps17; go_wp2
 go_loop [5, 6, 7] (fun n i _ => ∃ k : Nat, k ≤ l.length ∧ i = .int .i64 k ∧ n = .int .i64 (weightOf (l.take k) named)) (fun _ i _ => l.length - (intOf i).toNat)
 case atStart => exact ⟨0, by omega, rfl, rfl⟩
 case round =>
  obtain ⟨k, hk, rfl, rfl⟩ := hrel
  by_cases hlt : k < l.length
  ·have hki : (k : Int) < (l.length : Int) := by omega
   obtain ⟨b, off, rfl, hbB, hc0, hc1⟩ := Seats.at_ h hlt; have HS := Lib.hid (weightOf_snoc l named k hlt)
   by_cases hm : l[k].who ∈ named
   ·have hd : decide (l[k].who ∈ named) = true := by simp [hm]
    have HM := Lib.hid hm; clear hm; generalize l[k] = s at *; go_wp2_with fail; refine (rinI_any s.who named A' c' B' w h' hl').mono ?_; rintro e w1 ⟨rfl, rfl⟩; rw [hd]; go_wp2_with fail
    go_round
    case rel => exact ⟨k + 1, by omega, by go_num, by rw [HS.out, if_pos HM.out]⟩
    case measure => simp [intOf]; omega
   ·have hd : decide (l[k].who ∈ named) = false := by simp [hm]
    have HM := Lib.hid hm; clear hm; generalize l[k] = s at *; go_wp2_with fail; refine (rinI_any s.who named A' c' B' w h' hl').mono ?_; rintro e w1 ⟨rfl, rfl⟩; rw [hd]; go_wp2_with fail
    go_round
    case rel => exact ⟨k + 1, by omega, by go_num, by rw [HS.out, if_neg HM.out]⟩
    case measure => simp [intOf]; omega
  ·have hki : ¬ (k : Int) < (l.length : Int) := by omega
   go_wp2_with fail; go_ret; exact ⟨ret_int (by rw [List.take_of_length_le (by omega)]), rfl⟩
set_option maxRecDepth 100000 in
theorem rquorum_any (l : List Seat) (named : List Int) (A A' : Option Addr) (c c' B B' : Nat) (w : World) (h : Seats w B A l) (h' : Ints w B' A' named) (hB : B ≤ w.heap.size) (hl : l.length ≤ maxLen) (hl' : named.length ≤ maxLen) :
  Calls Try.prog 19 #[.slice A l.length c, .slice A' named.length c'] w fun e w' => e = .returned (.bool (decide (wrap64 (2 * total l) < wrap64 (3 * weightOf l named)))) ∧ Below w.heap.size w w' := by
 go_enter Try.func19, Try.ntmps19; go_wp2_with fail; refine (rweight_any l named A A' c c' B B' w h h' hl hl').mono ?_; rintro e w1 ⟨rfl, rfl⟩; go_wp2_with fail; refine (rtotal_any l A c B w h hB hl).mono ?_; rintro e w1 ⟨rfl, hb1⟩; go_wp2_with fail; go_ret; exact ⟨rfl, hb1⟩
end Go.Proofs.Ytlfonmpgenoooaa
