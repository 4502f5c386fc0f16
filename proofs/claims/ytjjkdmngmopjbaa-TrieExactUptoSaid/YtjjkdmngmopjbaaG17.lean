/- Of the texts Bench0. -/
import Derived.Test.YtjjkdmngmopjbaaProg
import Derived.Test.YtjjkdmngmopjbaaG03
import Derived.BigGuardPart
import Derived.Deep.QuietTactic
import Derived.BigQuiet
namespace Go.Proofs.Ytjjkdmngmopjbaa
open Go.RowKit
structure Seat where
  who : Int
  weight : Int
deriving DecidableEq, Repr
def seatCells (s : Seat) : List Value := [.int .i64 s.who, .int .i64 s.weight]
def seatsCells (l : List Seat) : List Value := l.flatMap seatCells
theorem seatsCells_at (l : List Seat) (k j : Nat) (hj : j < 2) : (seatsCells l)[k * 2 + j]? = (l[k]?).bind fun x => (seatCells x)[j]? := flatMap_two seatCells (fun _ => rfl) l k j hj
theorem seatsCells_length (l : List Seat) : (seatsCells l).length = l.length * 2 := by
  induction l with
  | nil => rfl
  | cons x l ih => simp [seatsCells, seatCells] at ih ⊢; omega
theorem seatsCells_one (l : List Seat) : ∀ u ∈ seatsCells l, u.oneCell' = true := by
  intro u hu
  simp only [seatsCells, List.mem_flatMap] at hu
  obtain ⟨s, _, hs⟩ := hu
  simp [seatCells] at hs
  rcases hs with rfl | rfl <;> rfl
theorem seatsCells_take (l : List Seat) (k : Nat) : (seatsCells l).take (k * 2) = seatsCells (l.take k) := by
  induction l generalizing k with
  | nil => simp [seatsCells]
  | cons x l ih =>
    cases k with
    | zero => simp [seatsCells]
    | succ k =>
      have e : (k + 1) * 2 = k * 2 + 2 := by omega
      have := ih k
      simp only [seatsCells] at this ⊢
      rw [e, List.take_succ_cons, List.flatMap_cons, List.flatMap_cons, ← this]
      simp [seatCells]
theorem seatsCells_drop (l : List Seat) (k : Nat) : (seatsCells l).drop (k * 2) = seatsCells (l.drop k) := by
  induction l generalizing k with
  | nil => simp [seatsCells]
  | cons x l ih =>
    cases k with
    | zero => simp [seatsCells]
    | succ k =>
      have e : (k + 1) * 2 = k * 2 + 2 := by omega
      have := ih k
      simp only [seatsCells] at this ⊢
      rw [e, List.drop_succ_cons, List.flatMap_cons, ← this]
      simp [seatCells]
theorem seatsCells_append (l m : List Seat) : seatsCells (l ++ m) = seatsCells l ++ seatsCells m := by simp [seatsCells]
/-- the seats l lie behind the address A -/
def Seats (w : World) (B : Nat) (A : Option Addr) (l : List Seat) : Prop := Rd w B 2 A l.length (seatsCells l)
theorem Seats.at_ {w : World} {B : Nat} {A : Option Addr} {l : List Seat} (h : Seats w B A l) {k : Nat} (hk : k < l.length) :
    ∃ b off, A = some ⟨b, off, none⟩ ∧ b < B ∧ w.cell? ⟨b, off + k * 2, none⟩ = some (.int .i64 l[k].who) ∧ w.cell? ⟨b, off + k * 2 + 1, none⟩ = some (.int .i64 l[k].weight) := by
  obtain ⟨b, off, u, rfl, hb, hx, hc⟩ := Rd.at_ (j := 0) h hk (by omega)
  obtain ⟨b', off', u', e, _, hx', hc'⟩ := Rd.at_ (j := 1) h hk (by omega)
  simp only [Option.some.injEq, Addr.mk.injEq, and_true] at e
  obtain ⟨rfl, rfl⟩ := e
  rw [seatsCells_at _ _ _ (by omega), List.getElem?_eq_getElem hk] at hx hx'
  simp [seatCells] at hx hx'
  subst hx; subst hx'
  exact ⟨b, off, rfl, hb, by simpa using hc, by simpa [Nat.add_assoc] using hc'⟩
/-- the sum of the weights, as the machine adds -/
def total (l : List Seat) : Int := l.foldl (fun a s => wrap64 (a + s.weight)) 0
theorem total_snoc (l : List Seat) (k : Nat) (hk : k < l.length) : total (l.take (k + 1)) = wrap64 (total (l.take k) + l[k].weight) := by
  unfold total; rw [List.take_succ_eq_append_getElem hk, List.foldl_append]; rfl
set_option maxRecDepth 100000 in
theorem total_any (l : List Seat) (A : Option Addr) (c B : Nat) (w : World) (h : Seats w B A l) (hB : B ≤ w.heap.size) (hl : l.length ≤ maxLen) :
    Calls Try.prog 157 #[.slice A l.length c] w fun e w' => e = .returned (.int .i64 (total l)) ∧ Below w.heap.size w w' := by
  unfold maxLen at hl
  go_enter Try.func157, Try.ntmps157
  go_wp2
  go_loopw [3, 5, 8] (fun n p i wr => ∃ k : Nat, k ≤ l.length ∧ i = .int .i64 k ∧ n = .int .i64 (total (l.take k)) ∧ Below w.heap.size w wr) (fun _ _ i _ => l.length - (intOf i).toNat)
  case atStart => exact ⟨0, by omega, rfl, rfl, Below.refl _ _⟩
  case round =>
    obtain ⟨k, hk, rfl, rfl, hb⟩ := hrel
    by_cases hlt : k < l.length
    · obtain ⟨b, off, rfl, hbB, hc0, hc1⟩ := Seats.at_ (h.below (hb.mono hB)) hlt
      go_wp2
      go_roundw
      case rel => exact ⟨k + 1, by omega, by go_num, by rw [total_snoc l k hlt], hb.alloc hb.size _⟩
      case measure => simp [intOf]; omega
    · go_wp2
      go_ret
      exact ⟨ret_int (by rw [List.take_of_length_le (by omega)]), hb⟩
set_option maxRecDepth 100000 in
theorem rtotal_any (l : List Seat) (A : Option Addr) (c B : Nat) (w : World) (h : Seats w B A l) (hB : B ≤ w.heap.size) (hl : l.length ≤ maxLen) :
    Calls Try.prog 159 #[.slice A l.length c] w fun e w' => e = .returned (.int .i64 (total l)) ∧ Below w.heap.size w w' := by
  unfold maxLen at hl
  go_enter Try.func159, Try.ntmps159
  go_wp2
  go_loopw [3, 4] (fun n i wr => ∃ k : Nat, k ≤ l.length ∧ i = .int .i64 k ∧ n = .int .i64 (total (l.take k)) ∧ Below w.heap.size w wr) (fun _ i _ => l.length - (intOf i).toNat)
  case atStart => exact ⟨0, by omega, rfl, rfl, Below.refl _ _⟩
  case round =>
    obtain ⟨k, hk, rfl, rfl, hb⟩ := hrel
    by_cases hlt : k < l.length
    · obtain ⟨b, off, rfl, hbB, hc0, hc1⟩ := Seats.at_ (h.below (hb.mono hB)) hlt
      go_wp2
      go_roundw
      case rel => exact ⟨k + 1, by omega, by go_num, by rw [total_snoc l k hlt], hb⟩
      case measure => simp [intOf]; omega
    · go_wp2
      go_ret
      exact ⟨ret_int (by rw [List.take_of_length_le (by omega)]), hb⟩

/-- the numbers l lie behind the address A -/
def Ints (w : World) (B : Nat) (A : Option Addr) (l : List Int) : Prop := Rd w B 1 A l.length (l.map (Value.int .i64))
theorem Ints.at_ {w : World} {B : Nat} {A : Option Addr} {l : List Int} (h : Ints w B A l) {k : Nat} (hk : k < l.length) :
    ∃ b off, A = some ⟨b, off, none⟩ ∧ b < B ∧ w.cell? ⟨b, off + k, none⟩ = some (.int .i64 l[k]) := by
  obtain ⟨b, off, u, rfl, hb, hx, hc⟩ := Rd.at_ (j := 0) h hk (by omega)
  simp [List.getElem?_eq_getElem hk] at hx
  subst hx
  exact ⟨b, off, rfl, hb, by simpa using hc⟩
/-- the place of x, or -1 -/
def idx (l : List Int) (x : Int) : Int := if x ∈ l then (l.idxOf x : Nat) else -1
theorem idx_found (l : List Int) (x : Int) (k : Nat) (hk : k < l.length) (hne : ∀ j (_ : j < k) (hj : j < l.length), x ≠ l[j]) (h : x = l[k]) : idx l x = k := by
  unfold idx
  have hm : x ∈ l := h ▸ List.getElem_mem hk
  rw [if_pos hm]
  congr 1
  have h1 : l.idxOf x < l.length := List.idxOf_lt_length_iff.2 hm
  have h2 : l[l.idxOf x] = x := List.getElem_idxOf h1
  rcases Nat.lt_trichotomy (l.idxOf x) k with h3 | h3 | h3
  · exact absurd h2.symm (hne _ h3 h1)
  · exact h3
  · have := List.not_of_lt_findIdx (p := fun y => y == x) (xs := l) (i := k) h3
    simp [h] at this
theorem idx_none (l : List Int) (x : Int) (hne : ∀ j (hj : j < l.length), x ≠ l[j]) : idx l x = -1 := by
  unfold idx
  rw [if_neg]
  intro hm
  obtain ⟨j, hj, e⟩ := List.getElem_of_mem hm
  exact hne j hj e.symm
theorem idx_mem (l : List Int) (x : Int) : decide (0 ≤ idx l x) = decide (x ∈ l) := by
  unfold idx
  by_cases h : x ∈ l <;> simp [h]
set_option maxRecDepth 100000 in
theorem index_any (l : List Int) (x : Int) (A : Option Addr) (c B : Nat) (w : World) (h : Ints w B A l) (hB : B ≤ w.heap.size) (hl : l.length ≤ maxLen) :
    Calls Try.prog 186 #[.slice A l.length c, .int .i64 x] w fun e w' => e = .returned (.int .i64 (idx l x)) ∧ w = w' := by
  unfold maxLen at hl
  go_enter Try.func186, Try.ntmps186
  go_wp2
  go_loop [5, 8] (fun n i => ∃ k : Nat, k ≤ l.length ∧ i = .int .i64 k ∧ ∀ j (_ : j < k) (hj : j < l.length), x ≠ l[j]) (fun _ i => l.length - (intOf i).toNat)
  case atStart => exact ⟨0, by omega, rfl, fun j hj => absurd hj (by omega)⟩
  case round =>
    obtain ⟨k, hk, rfl, hne⟩ := hrel
    have Hne := Lib.hid hne
    clear hne
    by_cases hlt : k < l.length
    · obtain ⟨b, off, rfl, hbB, hc0⟩ := Ints.at_ h hlt
      by_cases hx : x = l[k]
      · have hb : (x == l[k]) = true := by simp [hx]
        have HX := Lib.hid hx
        clear hx
        go_wp2
        go_ret
        exact ⟨ret_int (by rw [idx_found l x k hlt Hne.out HX.out]), rfl⟩
      · have hb : (x == l[k]) = false := by simp [hx]
        have HX := Lib.hid hx
        clear hx
        go_wp2
        go_round
        case rel =>
          refine ⟨k + 1, by omega, by go_num, fun j hj hjl => ?_⟩
          by_cases e : j = k
          · subst e; exact HX.out
          · exact Hne.out j (by omega) hjl
        case measure => simp [intOf]; omega
    · go_wp2
      go_ret
      exact ⟨ret_int (by rw [idx_none l x (fun j hj => Hne.out j (by omega) hj)]), rfl⟩
set_option maxRecDepth 100000 in
theorem contains_any (l : List Int) (x : Int) (A : Option Addr) (c B : Nat) (w : World) (h : Ints w B A l) (hB : B ≤ w.heap.size) (hl : l.length ≤ maxLen) :
    Calls Try.prog 175 #[.slice A l.length c, .int .i64 x] w fun e w' => e = .returned (.bool (decide (x ∈ l))) ∧ w = w' := by
  have HE := Lib.hid (idx_mem l x)
  go_enter Try.func175, Try.ntmps175
  go_wp2_with (go_at_call 186; refine (index_any l x A c B w h hB hl).mono ?_; rintro e w' ⟨rfl, rfl⟩)
  go_ret
  exact ⟨ret_bool HE.out, rfl⟩

/-- the weight of those named -/
def weightOf (l : List Seat) (named : List Int) : Int := l.foldl (fun a s => if s.who ∈ named then wrap64 (a + s.weight) else a) 0
theorem weightOf_snoc (l : List Seat) (named : List Int) (k : Nat) (hk : k < l.length) : weightOf (l.take (k + 1)) named = if l[k].who ∈ named then wrap64 (weightOf (l.take k) named + l[k].weight) else weightOf (l.take k) named := by
  unfold weightOf; rw [List.take_succ_eq_append_getElem hk, List.foldl_append]; rfl
set_option maxRecDepth 100000 in
theorem weight_any (l : List Seat) (named : List Int) (A A' : Option Addr) (c c' B : Nat) (w : World) (h : Seats w B A l) (h' : Ints w B A' named) (hB : B ≤ w.heap.size) (hl : l.length ≤ maxLen) (hl' : named.length ≤ maxLen) :
    Calls Try.prog 156 #[.slice A l.length c, .slice A' named.length c'] w fun e w' => e = .returned (.int .i64 (weightOf l named)) ∧ Below w.heap.size w w' := by
  have hlm := hl
  unfold maxLen at hl
  go_enter Try.func156, Try.ntmps156
  go_wp2
  go_loopw [5, 7, 10] (fun n p i wr => ∃ k : Nat, k ≤ l.length ∧ i = .int .i64 k ∧ n = .int .i64 (weightOf (l.take k) named) ∧ Below w.heap.size w wr) (fun _ _ i _ => l.length - (intOf i).toNat)
  case atStart => exact ⟨0, by omega, rfl, rfl, Below.refl _ _⟩
  case round =>
    obtain ⟨k, hk, rfl, rfl, hb⟩ := hrel
    by_cases hlt : k < l.length
    · obtain ⟨b, off, rfl, hbB, hc0, hc1⟩ := Seats.at_ (h.below (hb.mono hB)) hlt
      have hsz := hb.size
      by_cases hm : l[k].who ∈ named
      · have hd : decide (l[k].who ∈ named) = true := by simp [hm]
        have HM := Lib.hid hm
        clear hm
        go_wp2_with (go_at_call 175; refine (contains_any named _ A' c' B _ (by first | exact (Rd.below h' (hb.mono hB)).alloc (by omega) _) (by simp; omega) hl').mono ?_; rintro e w' ⟨rfl, rfl⟩)
        go_roundw
        case rel => exact ⟨k + 1, by omega, by go_num, by rw [weightOf_snoc l named k hlt, if_pos HM.out], hb.alloc hb.size _⟩
        case measure => simp [intOf]; omega
      · have hd : decide (l[k].who ∈ named) = false := by simp [hm]
        have HM := Lib.hid hm
        clear hm
        go_wp2_with (go_at_call 175; refine (contains_any named _ A' c' B _ (by first | exact (Rd.below h' (hb.mono hB)).alloc (by omega) _) (by simp; omega) hl').mono ?_; rintro e w' ⟨rfl, rfl⟩)
        go_roundw
        case rel => exact ⟨k + 1, by omega, by go_num, by rw [weightOf_snoc l named k hlt, if_neg HM.out], hb.alloc hb.size _⟩
        case measure => simp [intOf]; omega
    · go_wp2
      go_ret
      exact ⟨ret_int (by rw [List.take_of_length_le (by omega)]), hb⟩

set_option maxRecDepth 100000 in
theorem quorum_any (l : List Seat) (named : List Int) (A A' : Option Addr) (c c' B : Nat) (w : World) (h : Seats w B A l) (h' : Ints w B A' named) (hB : B ≤ w.heap.size) (hl : l.length ≤ maxLen) (hl' : named.length ≤ maxLen) :
    Calls Try.prog 126 #[.slice A l.length c, .slice A' named.length c'] w fun e w' => e = .returned (.bool (decide (wrap64 (2 * total l) < wrap64 (3 * weightOf l named)))) ∧ Below w.heap.size w w' := by
  go_enter Try.func126, Try.ntmps126
  go_wp2_with (first
    | (go_at_call 156; refine (weight_any l named A A' c c' B _ h h' hB hl hl').mono ?_; rintro e w1 ⟨rfl, hb1⟩)
    | (go_at_call 157; refine (total_any l A c B _ (Rd.below h (hb1.mono hB)) (Nat.le_trans hB hb1.size) hl).mono ?_; rintro e w2 ⟨rfl, hb2⟩))
  go_ret
  exact ⟨rfl, hb1.trans (hb2.mono hb1.size)⟩
/-! ### which seats may be -/
def seatOk (s : Seat) : Bool := decide (1 ≤ s.who) && decide (s.who ≤ 1099511627775) && decide (1 ≤ s.weight) && decide (s.weight ≤ 1099511627775)
def seatV (s : Seat) : Value := .agg #[.int .i64 s.who, .int .i64 s.weight]
set_option maxRecDepth 100000 in
theorem seatMay_any (s : Seat) (w : World) : Calls Try.prog 112 #[.agg #[.int .i64 s.who, .int .i64 s.weight]] w fun e w' => e = .returned (.bool (seatOk s)) ∧ Below w.heap.size w w' := by
  go_enter Try.func112, Try.ntmps112
  go_wp2
  all_goals
    go_ret
    exact ⟨ret_bool (by simp [seatOk, *] <;> omega), (Below.refl _ _).alloc (Nat.le_refl _) _⟩
set_option maxRecDepth 100000 in
theorem seat_any (s : Seat) (w : World) : Calls Try.prog 150 #[.agg #[.int .i64 s.who, .int .i64 s.weight]] w fun e w' => e = .returned (.bool (seatOk s)) ∧ Below w.heap.size w w' := by
  go_enter Try.func150, Try.ntmps150
  go_wp2
  all_goals
    go_ret
    exact ⟨ret_bool (by simp [seatOk, *] <;> omega), (Below.refl _ _).alloc (Nat.le_refl _) _⟩

/-- from a last voter on: each seat may be, and stands behind the last -/
def fitsFrom (last : Int) : List Seat → Bool
  | [] => true
  | s :: l => seatOk s && decide (last < s.who) && fitsFrom s.who l
def fits (l : List Seat) : Bool := fitsFrom 0 l && decide (1 ≤ l.length) && decide (l.length ≤ 7)
theorem drop_cons {α : Type} (l : List α) (k : Nat) (hk : k < l.length) : l.drop k = l[k] :: l.drop (k + 1) := List.drop_eq_getElem_cons hk
set_option maxRecDepth 100000 in
theorem fits_any (l : List Seat) (A : Option Addr) (c B : Nat) (w : World) (h : Seats w B A l) (hB : B ≤ w.heap.size) (hl : l.length ≤ maxLen) :
    Calls Try.prog 122 #[.slice A l.length c] w fun e w' => e = .returned (.bool (fits l)) ∧ Below w.heap.size w w' := by
  unfold maxLen at hl
  go_enter Try.func122, Try.ntmps122
  go_wp2
  go_loopw [3, 5, 8] (fun n p i wr => ∃ (k : Nat) (last : Int), k ≤ l.length ∧ i = .int .i64 k ∧ n = .int .i64 last ∧ fitsFrom 0 l = fitsFrom last (l.drop k) ∧ Below w.heap.size w wr) (fun _ _ i _ => l.length - (intOf i).toNat)
  case atStart => exact ⟨0, 0, by omega, rfl, rfl, rfl, Below.refl _ _⟩
  case round =>
    obtain ⟨k, last, hk, rfl, rfl, hf, hb⟩ := hrel
    have HF := Lib.hid hf
    clear hf
    by_cases hlt : k < l.length
    · obtain ⟨b, off, rfl, hbB, hc0, hc1⟩ := Seats.at_ (h.below (hb.mono hB)) hlt
      have HD := Lib.hid (drop_cons l k hlt)
      go_wp2_with (go_at_call 150; refine (seat_any l[k] _).mono ?_; rintro e w1 ⟨rfl, hb1⟩; have hp := cell_laid hb1 (by simp) 0 _ rfl; have hB1 := (hb.alloc hb.size (.cells #[.int .i64 l[k].who, .int .i64 l[k].weight] 147)).trans (hb1.mono (by have := hb.size; simp; omega)))
      · go_ret
        refine ⟨ret_bool ?_, hB1⟩
        have h1 : seatOk l[k] = false := by assumption
        unfold fits; rw [HF.out, HD.out]; simp [fitsFrom, h1]
      · go_ret
        refine ⟨ret_bool ?_, hB1⟩
        have h1 : seatOk l[k] = true := by assumption
        unfold fits; rw [HF.out, HD.out]; simp [fitsFrom, h1]; omega
      · go_roundw
        case rel =>
          refine ⟨k + 1, l[k].who, by omega, by go_num, rfl, ?_, hB1⟩
          have h1 : seatOk l[k] = true := by assumption
          rw [HF.out, HD.out]; simp [fitsFrom, h1]; omega
        case measure => simp [intOf]; omega
    · have HN := Lib.hid (List.drop_eq_nil_of_le (show l.length ≤ k by omega))
      go_wp2
      all_goals
        go_ret
        refine ⟨ret_bool (Bool.eq_iff_iff.2 ?_), hb⟩
        unfold fits; rw [HF.out, HN.out]; simp [fitsFrom] <;> omega

set_option maxRecDepth 100000 in
theorem rfits_any (l : List Seat) (A : Option Addr) (c B : Nat) (w : World) (h : Seats w B A l) (hB : B ≤ w.heap.size) (hl : l.length ≤ maxLen) :
    Calls Try.prog 81 #[.slice A l.length c] w fun e w' => e = .returned (.bool (fits l)) ∧ Below w.heap.size w w' := by
  unfold maxLen at hl
  go_enter Try.func81, Try.ntmps81
  go_wp2
  go_loopw [3, 4] (fun i o wr => ∃ (k : Nat), k ≤ l.length ∧ i = .int .i64 k ∧ fitsFrom 0 l = fitsFrom (if h : 0 < k ∧ k ≤ l.length then (l[k - 1]'(by omega)).who else 0) (l.drop k) ∧ Below w.heap.size w wr) (fun i _ _ => l.length - (intOf i).toNat)
  case atStart => exact ⟨0, by omega, rfl, rfl, Below.refl _ _⟩
  case round =>
    obtain ⟨k, hk, rfl, hf, hb⟩ := hrel
    have HF := Lib.hid hf
    clear hf
    by_cases hlt : k < l.length
    · obtain ⟨b, off, rfl, hbB, hc0, hc1⟩ := Seats.at_ (h.below (hb.mono hB)) hlt
      have HD := Lib.hid (drop_cons l k hlt)
      go_wp2_with (go_at_call 112; refine (seatMay_any l[k] _).mono ?_; rintro e w1 ⟨rfl, hb1⟩)
      have hB1 := hb.trans (hb1.mono hb.size)
      have hc0 := (hb1.cell (p := ⟨b, off + k * 2, none⟩) (by have := hb.size; simp; omega)).trans hc0
      clear hc1 hb1
      cases hs : seatOk l[k]
      · go_quiet (fail)
        go_wp2
        go_ret
        refine ⟨ret_bool ?_, hB1.drewN _⟩
        unfold fits; rw [HF.out, HD.out]; simp [fitsFrom, hs]
      · by_cases hk0 : 0 < k
        · have hk1 : (0 : Int) < (k : Int) := by omega
          obtain ⟨b', off', e, hbB', hd0, hd1⟩ := Seats.at_ (h.below (hB1.mono hB)) (show k - 1 < l.length by omega)
          simp only [Option.some.injEq, Addr.mk.injEq, and_true] at e
          obtain ⟨rfl, rfl⟩ := e
          have hw : IntKind.i64.wrap ((k : Int) - 1) = (k : Int) - 1 := IntWalk.i64_in _ (by omega)
          have ht : ((k : Int) - 1).toNat = k - 1 := by omega
          have hlo : (0 : Int) ≤ (k : Int) - 1 := by omega
          have hhi : (k : Int) - 1 < (l.length : Int) := by omega
          go_quiet (fail)
          go_wp2
          · go_ret
            refine ⟨ret_bool ?_, hB1.drewN _⟩
            have h9 : decide (l[k - 1].who < l[k].who) = false := by simp; omega
            unfold fits; rw [HF.out, HD.out]; simp [fitsFrom, hs, hk0, hlt, Nat.le_of_lt hlt, h9]
          · go_roundw
            case rel =>
              refine ⟨k + 1, by omega, by go_num, ?_, hB1.drewN _⟩
              have h9 : decide (l[k - 1].who < l[k].who) = true := by simp; omega
              have h8 : k + 1 ≤ l.length := hlt
              rw [HF.out, HD.out]; simp [fitsFrom, hs, hk0, h8, Nat.le_of_lt hlt, h9]
            case measure => simp [intOf]; omega
        · have hk1 : decide ((0 : Int) < (k : Int)) = false := by simp; omega
          obtain rfl : k = 0 := by omega
          go_quiet (fail)
          go_wp2
          go_roundw
          case rel =>
            refine ⟨0 + 1, by omega, by go_num, ?_, hB1.drewN _⟩
            rw [HF.out, HD.out]
            have := hs
            simp [seatOk] at this
            have h8 : 1 ≤ l.length := hlt
            simp [fitsFrom, hs, h8]
            omega
          case measure => simp [intOf]; omega
    · have HN := Lib.hid (List.drop_eq_nil_of_le (show l.length ≤ k by omega))
      go_wp2
      all_goals
        go_ret
        refine ⟨ret_bool (Bool.eq_iff_iff.2 ?_), hb⟩
        unfold fits; rw [HF.out, HN.out]; simp [fitsFrom] <;> omega
end Go.Proofs.Ytjjkdmngmopjbaa
