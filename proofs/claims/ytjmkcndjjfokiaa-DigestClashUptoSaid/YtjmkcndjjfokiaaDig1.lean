/- What package digest's and the reference's digests of lists compute: half, the tree above, the root. -/
import Derived.Test.YtjmkcndjjfokiaaProg
import Derived.Test.YtjmkcndjjfokiaaTrie0
import Derived.Deep.RegionHeld3
import Derived.Deep.RegionLaw
namespace Go.Proofs.Ytjmkcndjjfokiaa
open Go.RowKit
def halfGo : Nat → Nat → Nat → Nat
  | 0, _, k => k
  | f + 1, n, k => if k * 2 < n then halfGo f n (k * 2) else k
/-- the greatest power of two below n -/
def halfS (n : Nat) : Nat := halfGo n n 1
theorem halfGo_end (f n k : Nat) (h : ¬ k * 2 < n) : halfGo f n k = k := by
  cases f with
  | zero => rfl
  | succ f => simp [halfGo, h]
theorem halfGo_step (f n k : Nat) (hk : 1 ≤ k) (hf : n ≤ k + f) (h : k * 2 < n) : halfGo f n k = halfGo (f - 1) n (k * 2) := by
  cases f with
  | zero => omega
  | succ f => simp [halfGo, h]
theorem halfGo_bd (f n k : Nat) (hk : 1 ≤ k) (hf : n ≤ k + f) (hkn : k < n) : 1 ≤ halfGo f n k ∧ halfGo f n k < n ∧ n ≤ 2 * halfGo f n k := by
  induction f generalizing k with
  | zero => omega
  | succ f ih =>
    unfold halfGo
    split
    · exact ih (k * 2) (by omega) (by omega) (by omega)
    · omega
theorem halfS_bd (n : Nat) (h : 2 ≤ n) : 1 ≤ halfS n ∧ halfS n < n ∧ n ≤ 2 * halfS n := halfGo_bd n n 1 (by omega) (by omega) (by omega)
set_option maxRecDepth 100000 in
theorem half_any (n : Nat) (w : World) (hn : n ≤ 1099511627776) :
    Calls Try.prog 86 #[.int .i64 (n : Int)] w fun e w' => e = .returned (.int .i64 (halfS n : Int)) ∧ w = w' := by
  go_enter Try.func86, Try.ntmps86
  go_wp2
  go_loop [3] (fun i => ∃ (k f : Nat), i = .int .i64 (k : Int) ∧ 1 ≤ k ∧ n ≤ k + f ∧ (k ≤ n ∨ k = 1) ∧ halfS n = halfGo f n k) (fun i => n - (intOf i).toNat)
  case atStart => exact ⟨1, n, rfl, by omega, by omega, by omega, rfl⟩
  case round =>
    obtain ⟨k, f, rfl, hk, hf, hkn, he⟩ := hrel
    have HE := Lib.hid he
    clear he
    by_cases hlt : k * 2 < n
    · have hi : (k : Int) * 2 < (n : Int) := by omega
      go_wp2
      go_round
      case rel => exact ⟨k * 2, f - 1, by go_num, by omega, by omega, by omega, by rw [HE.out, halfGo_step f n k hk hf hlt]⟩
      case measure => simp [intOf]; omega
    · have hi : ¬ (k : Int) * 2 < (n : Int) := by omega
      go_wp2
      go_ret
      exact ⟨ret_int (by rw [HE.out, halfGo_end f n k hlt]), rfl⟩
set_option maxRecDepth 100000 in
theorem split_any (n : Nat) (w : World) (hn : n ≤ 1099511627776) (h2 : 1 ≤ n) :
    Calls Try.prog 148 #[.int .i64 (n : Int)] w fun e w' => e = .returned (.int .i64 (halfS n : Int)) ∧ w = w' := by
  go_enter Try.func148, Try.ntmps148
  go_wp2
  go_loop [3] (fun i => ∃ (k f : Nat), i = .int .i64 (k : Int) ∧ 1 ≤ k ∧ n ≤ k + f ∧ (k ≤ n ∨ k = 1) ∧ halfS n = halfGo f n k) (fun i => n - (intOf i).toNat)
  case atStart => exact ⟨1, n, rfl, by omega, by omega, by omega, rfl⟩
  case round =>
    obtain ⟨k, f, rfl, hk, hf, hkn, he⟩ := hrel
    have HE := Lib.hid he
    clear he
    by_cases hlt : k * 2 < n
    · have hi : (k : Int) ≤ ((n : Int) - 1) / 2 := by omega
      go_wp2
      go_round
      case rel => exact ⟨k * 2, f - 1, by go_num, by omega, by omega, by omega, by rw [HE.out, halfGo_step f n k hk hf hlt]⟩
      case measure => simp [intOf]; omega
    · have hi : ¬ (k : Int) ≤ ((n : Int) - 1) / 2 := by omega
      go_wp2
      go_ret
      exact ⟨ret_int (by rw [HE.out, halfGo_end f n k hlt]), rfl⟩
/-! ### the digest above a list -/
def aboveF : Nat → Int → List (List UInt8) → Int
  | 0, _, _ => 0
  | f + 1, w, l => match l with
    | [] => 0
    | [s] => ofS w 0 [s]
    | a :: b :: r => ofS w 1 [be (aboveF f w ((a :: b :: r).take (halfS (a :: b :: r).length))) 8, be (aboveF f w ((a :: b :: r).drop (halfS (a :: b :: r).length))) 8]
def aboveS (w : Int) (l : List (List UInt8)) : Int := aboveF l.length w l
theorem aboveF_irrel (w : Int) : ∀ (f g : Nat) (l : List (List UInt8)), l.length ≤ f → l.length ≤ g → aboveF f w l = aboveF g w l
  | 0, g, l, h1, h2 => by
    have : l = [] := List.eq_nil_of_length_eq_zero (by omega)
    subst this
    cases g <;> rfl
  | f + 1, 0, l, h1, h2 => by
    have : l = [] := List.eq_nil_of_length_eq_zero (by omega)
    subst this
    rfl
  | f + 1, g + 1, [], _, _ => rfl
  | f + 1, g + 1, [s], _, _ => rfl
  | f + 1, g + 1, a :: b :: r, h1, h2 => by
    have hb := halfS_bd (a :: b :: r).length (by simp)
    simp only [aboveF]
    rw [aboveF_irrel w f g _ (by simp only [List.length_take]; simp at h1 hb ⊢; omega) (by simp only [List.length_take]; simp at h2 hb ⊢; omega),
      aboveF_irrel w f g ((a :: b :: r).drop _) (by simp only [List.length_drop]; simp at h1 hb ⊢; omega) (by simp only [List.length_drop]; simp at h2 hb ⊢; omega)]
theorem aboveS_nil (w : Int) : aboveS w [] = 0 := rfl
theorem aboveS_one (w : Int) (s : List UInt8) : aboveS w [s] = ofS w 0 [s] := rfl
theorem aboveS_more (w : Int) (l : List (List UInt8)) (h : 2 ≤ l.length) : aboveS w l = ofS w 1 [be (aboveS w (l.take (halfS l.length))) 8, be (aboveS w (l.drop (halfS l.length))) 8] := by
  match l, h with
  | a :: b :: r, _ =>
    have hb := halfS_bd (a :: b :: r).length (by simp)
    unfold aboveS
    rw [show (a :: b :: r).length = r.length + 1 + 1 from rfl] at hb ⊢
    rw [aboveF]
    rw [show (a :: b :: r).length = r.length + 1 + 1 from rfl]
    rw [aboveF_irrel w (r.length + 1) _ ((a :: b :: r).take _) (by simp only [List.length_take]; omega) (Nat.le_refl _),
      aboveF_irrel w (r.length + 1) _ ((a :: b :: r).drop _) (by simp only [List.length_drop, List.length_cons]; omega) (Nat.le_refl _)]
theorem aboveS_bd (w : Int) (l : List (List UInt8)) : 0 ≤ aboveS w l ∧ aboveS w l < 18446744073709551616 := by
  rcases Nat.lt_or_ge l.length 2 with h | h
  · match l, h with
    | [], _ => rw [aboveS_nil]; omega
    | [s], _ => rw [aboveS_one]; have := ofS_bd w 0 [s]; omega
  · rw [aboveS_more w l h]; have := ofS_bd w 1 [be (aboveS w (l.take (halfS l.length))) 8, be (aboveS w (l.drop (halfS l.length))) 8]; omega
def rootS (w : Int) (l : List (List UInt8)) : Int := ofS w 2 [be (l.length : Int) 5, be (aboveS w l) 8]
theorem Strs.take {w : World} {B : Nat} {A : Option Addr} {ps : List (List UInt8)} (h : Strs w B A ps) {k : Nat} (hk : k ≤ ps.length) : Strs w B A (ps.take k) := by
  have := Rd.take h hk
  unfold Strs
  rw [List.length_take, Nat.min_eq_left hk, List.map_take]
  simpa using this
theorem Strs.cut_lt {w : World} {B b off : Nat} {ps : List (List UInt8)} (h : Strs w B (some ⟨b, off, none⟩) ps) {k : Nat} (hk : k < ps.length) : Strs w B (some ⟨b, off + k, none⟩) (ps.drop k) := by
  have := Rd.cut_lt h hk
  unfold Strs
  rw [List.length_drop, List.map_drop]
  simpa using this
theorem Short.take {ps : List (List UInt8)} (h : Short ps) (k : Nat) : Short (ps.take k) := fun p hp => h p (List.mem_of_mem_take hp)
theorem Short.drop {ps : List (List UInt8)} (h : Short ps) (k : Nat) : Short (ps.drop k) := fun p hp => h p (List.mem_of_mem_drop hp)
set_option maxRecDepth 100000 in
theorem dleaf_any (s : List UInt8) (w : World) :
    Calls Try.prog 145 #[.string (bs s)] w fun e w' => ∃ x, e = .returned x ∧ IsImg w.heap.size w' x 0 [s] ∧ Below w.heap.size w w' := by
  go_enter Try.func145, Try.ntmps145
  go_wp2
  refine bodyPost_ret (v := .agg #[.int .i64 0, .slice (some ⟨w.heap.size + 1, 0, none⟩) 1 1]) (by simp [results, Try.results145, go_sem]) rfl ⟨_, rfl, ⟨_, _, rfl, ?_, from_some (by omega)⟩, ((Below.refl _ _).alloc (Nat.le_refl _) _).alloc (by simp) _⟩
  have := Strs.laid (w := w.alloc (.cells #[.int .i64 0, .slice (some ⟨w.heap.size + 1, 0, none⟩) 1 1] 45)) (t := 9) [s]
  simpa using this
set_option maxRecDepth 100000 in
theorem dnode_any (a b : Int) (w : World) (ha0 : 0 ≤ a) (ha1 : a < 18446744073709551616) (hb0 : 0 ≤ b) (hb1 : b < 18446744073709551616) :
    Calls Try.prog 146 #[.int .u64 a, .int .u64 b] w fun e w' => ∃ x, e = .returned x ∧ IsImg w.heap.size w' x 1 [be a 8, be b 8] ∧ Below w.heap.size w w' := by
  go_enter Try.func146, Try.ntmps146
  go_wp2_with fail
  refine (eight_any a _ ha0 ha1).mono ?_
  rintro e w2 ⟨rfl, h2⟩
  go_wp2_with fail
  refine (eight_any b _ hb0 hb1).mono ?_
  rintro e w3 ⟨rfl, h3⟩
  have h13 := h2.trans (h3.mono h2.size)
  have hs := h13.size
  simp at hs
  have hblk := blk_laid h13 (by simp)
  have hc0 := hblk.cell_a 0 _ rfl
  have hc1 := hblk.cell_a 1 _ rfl
  have hf0 := hblk.frozen_a 0
  have hf1 := hblk.frozen_a 1
  go_wp2
  have hB2 := ((hblk.alloc (.cells #[.string (bs (be a 8)), .string (bs (be b 8))] 9)).set_ 0 (.int .i64 1)).set_ 1 (.slice (some ⟨w3.heap.size, 0, none⟩) 2 2)
  have q0 := (hB2.cell 0).trans (show _ = some (.int .i64 1) from rfl)
  have q1 := (hB2.cell 1).trans (show _ = some (.slice (some ⟨w3.heap.size, 0, none⟩) 2 2) from rfl)
  refine bodyPost_ret (v := .agg #[.int .i64 1, .slice (some ⟨w3.heap.size, 0, none⟩) 2 2]) (by simp [results, Try.results146, go_sem, q0, q1]) rfl ⟨_, rfl, ⟨_, _, rfl, ?_, from_some (by omega)⟩, ?_⟩
  · have h9 := strs2 w3 9 (be a 8) (be b 8)
    have h10 := (Rd.setCell' h9 (p := ⟨w.heap.size, 0, none⟩) (by simp; omega) (.int .i64 1))
    have h11 := (Rd.setCell' h10 (p := ⟨w.heap.size, 1, none⟩) (by simp; omega) (.slice (some ⟨w3.heap.size, 0, none⟩) 2 2))
    exact Rd.more h11 (by simp [World.setCell])
  · exact (((((Below.refl _ _).alloc (Nat.le_refl _) _).trans (h13.mono (by simp))).alloc (by omega) _).setCell (Nat.le_refl _) _).setCell (Nat.le_refl _) _
set_option maxRecDepth 100000 in
theorem dlist_any (n b : Int) (w : World) (hb0 : 0 ≤ b) (hb1 : b < 18446744073709551616) :
    Calls Try.prog 84 #[.int .i64 n, .int .u64 b] w fun e w' => ∃ x, e = .returned x ∧ IsImg w.heap.size w' x 2 [be n 5, be b 8] ∧ Below w.heap.size w w' := by
  go_enter Try.func84, Try.ntmps84
  go_wp2_with fail
  refine (five_any n _).mono ?_
  rintro e w2 ⟨rfl, h2⟩
  go_wp2_with fail
  refine (eight_any b _ hb0 hb1).mono ?_
  rintro e w3 ⟨rfl, h3⟩
  have h13 := h2.trans (h3.mono h2.size)
  have hs := h13.size
  simp at hs
  have hblk := blk_laid h13 (by simp)
  have hc0 := hblk.cell_a 0 _ rfl
  have hc1 := hblk.cell_a 1 _ rfl
  have hf0 := hblk.frozen_a 0
  have hf1 := hblk.frozen_a 1
  go_wp2
  have hB2 := ((hblk.alloc (.cells #[.string (bs (be n 5)), .string (bs (be b 8))] 9)).set_ 0 (.int .i64 2)).set_ 1 (.slice (some ⟨w3.heap.size, 0, none⟩) 2 2)
  have q0 := (hB2.cell 0).trans (show _ = some (.int .i64 2) from rfl)
  have q1 := (hB2.cell 1).trans (show _ = some (.slice (some ⟨w3.heap.size, 0, none⟩) 2 2) from rfl)
  refine bodyPost_ret (v := .agg #[.int .i64 2, .slice (some ⟨w3.heap.size, 0, none⟩) 2 2]) (by simp [results, Try.results84, go_sem, q0, q1]) rfl ⟨_, rfl, ⟨_, _, rfl, ?_, from_some (by omega)⟩, ?_⟩
  · have h9 := strs2 w3 9 (be n 5) (be b 8)
    have h10 := (Rd.setCell' h9 (p := ⟨w.heap.size, 0, none⟩) (by simp; omega) (.int .i64 2))
    have h11 := (Rd.setCell' h10 (p := ⟨w.heap.size, 1, none⟩) (by simp; omega) (.slice (some ⟨w3.heap.size, 0, none⟩) 2 2))
    exact Rd.more h11 (by simp [World.setCell])
  · exact (((((Below.refl _ _).alloc (Nat.le_refl _) _).trans (h13.mono (by simp))).alloc (by omega) _).setCell (Nat.le_refl _) _).setCell (Nat.le_refl _) _
end Go.Proofs.Ytjmkcndjjfokiaa
