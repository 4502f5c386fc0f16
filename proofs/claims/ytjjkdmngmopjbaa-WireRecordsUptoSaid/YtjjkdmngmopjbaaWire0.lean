/- What wire.Five, wire.Eight and the reference's Five and Eight compute: the bytes of a number, the greatest first. -/
import Derived.Test.YtjjkdmngmopjbaaProg
import Derived.Test.YtjjkdmngmopjbaaBase
namespace Go.Proofs.Ytjjkdmngmopjbaa
open Go.RowKit
set_option maxRecDepth 100000 in
theorem five_any (n : Int) (w : World) : Calls Try.prog 163 #[.int .i64 n] w fun e w' => e = .returned (.string (bs (be n 5))) ∧ Below w.heap.size w w' := by
  have hc := @conv5 Try.prog 144 9 5 Try.underlying144 Try.underlying5 Try.underlying9
  go_enter Try.func163, Try.ntmps163
  go_wp2
  go_ret
  refine ⟨?_, (Below.refl _ _).alloc (Nat.le_refl _) _⟩
  simp [be]
set_option maxRecDepth 100000 in
theorem rfive_any (n : Int) (w : World) : Calls Try.prog 136 #[.int .i64 n] w fun e w' => e = .returned (.string (bs (be n 5))) ∧ Below w.heap.size w w' := by
  have hc := @conv1 Try.prog 144 9 5 Try.underlying144 Try.underlying5 Try.underlying9
  go_enter Try.func136, Try.ntmps136
  go_wp2
  go_loopw [0, 3, 4] (fun a s i wr => ∃ k : Nat, k ≤ 5 ∧ i = .int .i64 k ∧ a = .int .i64 (n / 256 ^ k) ∧ s = .string (bs (be n k)) ∧ Below w.heap.size w wr) (fun _ _ i _ => 5 - (intOf i).toNat)
  case atStart => exact ⟨0, by omega, rfl, by simp, rfl, Below.refl _ _⟩
  case round =>
    obtain ⟨k, hk, rfl, rfl, rfl, hb⟩ := hrel
    go_wp2
    · go_roundw
      case rel => exact ⟨k + 1, by omega, by go_num, by rw [div_step], rfl, hb.alloc hb.size _⟩
      case measure => simp [intOf]; omega
    · go_ret
      obtain rfl : k = 5 := by omega
      exact ⟨rfl, hb⟩
theorem u64_div (n : Int) (k : Nat) (h0 : 0 ≤ n) (h1 : n < 18446744073709551616) : IntKind.u64.wrap ((n / 256 ^ k).tdiv 256) = n / 256 ^ (k + 1) := by
  have hp := pow256 k
  have h2 : 0 ≤ n / 256 ^ k := Int.ediv_nonneg h0 (by omega)
  have h3 : n / 256 ^ k ≤ n := Int.ediv_le_self _ h0
  rw [Int.tdiv_eq_ediv_of_nonneg h2, ← div_step]
  have h4 : 0 ≤ n / 256 ^ k / 256 := Int.ediv_nonneg h2 (by omega)
  have h5 : n / 256 ^ k / 256 ≤ n / 256 ^ k := Int.ediv_le_self _ h2
  have h6 : IntKind.u64.wrap (n / 256 ^ k / 256) = n / 256 ^ k / 256 := IntWalk.u64_in _ (by omega)
  exact h6
set_option maxRecDepth 100000 in
theorem reight_any (n : Int) (w : World) (h0 : 0 ≤ n) (h1 : n < 18446744073709551616) : Calls Try.prog 106 #[.int .u64 n] w fun e w' => e = .returned (.string (bs (be n 8))) ∧ Below w.heap.size w w' := by
  have hc := @conv1 Try.prog 144 9 5 Try.underlying144 Try.underlying5 Try.underlying9
  go_enter Try.func106, Try.ntmps106
  go_wp2
  go_loopw [0, 3, 4] (fun a s i wr => ∃ k : Nat, k ≤ 8 ∧ i = .int .i64 k ∧ a = .int .u64 (n / 256 ^ k) ∧ s = .string (bs (be n k)) ∧ Below w.heap.size w wr) (fun _ _ i _ => 8 - (intOf i).toNat)
  case atStart => exact ⟨0, by omega, rfl, by simp, rfl, Below.refl _ _⟩
  case round =>
    obtain ⟨k, hk, rfl, rfl, rfl, hb⟩ := hrel
    go_wp2
    · go_roundw
      case rel => exact ⟨k + 1, by omega, by go_num, by rw [u64_div n k h0 h1], rfl, hb.alloc hb.size _⟩
      case measure => simp [intOf]; omega
    · go_ret
      obtain rfl : k = 8 := by omega
      exact ⟨rfl, hb⟩

/-- the eight cells after i rounds -/
def cells8 (n : Int) (i : Nat) : Array Value := ((List.range 8).map fun j => Value.int .u8 (if j < i then n / 256 ^ (7 - j) % 256 else 0)).toArray
theorem cells8_size (n : Int) (i : Nat) : (cells8 n i).size = 8 := by simp [cells8]
theorem cells8_at (n : Int) (i k : Nat) (hk : k < 8) : (cells8 n i)[k]? = some (.int .u8 (if k < i then n / 256 ^ (7 - k) % 256 else 0)) := by
  simp [cells8, hk]
theorem cells8_set (n : Int) (i : Nat) (hi : i < 8) : (cells8 n i).setIfInBounds i (.int .u8 (n / 256 ^ (7 - i) % 256)) = cells8 n (i + 1) := by
  apply Array.ext_getElem?
  intro j
  rw [Array.getElem?_setIfInBounds]
  rcases Nat.lt_or_ge j 8 with hj | hj
  · rw [cells8_at _ _ _ hj, cells8_at _ _ _ hj, cells8_size]
    by_cases h : i = j
    · subst h; simp [hi]
    · rw [if_neg h]
      have : (j < i) = (j < i + 1) := by simp; omega
      simp [this]
  · rw [Array.getElem?_eq_none (by rw [cells8_size]; exact hj), Array.getElem?_eq_none (by rw [cells8_size]; exact hj)]
    split <;> simp
    omega
theorem shift8 (k : Nat) (hk : k < 8) : (2 : Int) ^ (56 - 8 * k) = 256 ^ (7 - k) := by
  match k, hk with
  | 0, _ => rfl
  | 1, _ => rfl
  | 2, _ => rfl
  | 3, _ => rfl
  | 4, _ => rfl
  | 5, _ => rfl
  | 6, _ => rfl
  | 7, _ => rfl
def nums8 (n : Int) : List Int := (List.range 8).map fun j => n / 256 ^ (7 - j) % 256
theorem nums8_at (n : Int) (i : Nat) (hi : i < 8) : (nums8 n).getD i 0 = n / 256 ^ (7 - i) % 256 := by
  simp [nums8, List.getD, hi]
theorem nums8_be (n : Int) : strOfNums (nums8 n) = bs (be n 8) := by
  simp [strOfNums, nums8, be, bs, List.range_succ]
set_option maxRecDepth 100000 in
theorem eight_any (n : Int) (w : World) (_h0 : 0 ≤ n) (_h1 : n < 18446744073709551616) : Calls Try.prog 105 #[.int .u64 n] w fun e w' => e = .returned (.string (bs (be n 8))) ∧ Below w.heap.size w w' := by
  have hmk : ∀ W : World, (Instr.makeSlice 144 (.int .i64 8) (.int .i64 8)).run Try.prog W = .ok (.slice (some ⟨W.heap.size, 0, none⟩) 8 8) (W.alloc (.cells (cells8 n 0) 5)) := fun _ => by kernel_rfl
  go_enter Try.func105, Try.ntmps105
  go_wp2
  go_loopw [4, 8] (fun j i wr => ∃ k : Nat, k ≤ 8 ∧ i = .int .i64 k ∧ Blk wr w.heap.size 5 (cells8 n k) ∧ Below w.heap.size w wr) (fun _ i _ => 8 - (intOf i).toNat)
  case atStart => exact ⟨0, by omega, rfl, Blk.new _ _ _, (Below.refl _ _).alloc (Nat.le_refl _) _⟩
  case round =>
    obtain ⟨k, hk, rfl, hblk, hb⟩ := hrel
    have hl := hblk.lt
    by_cases hlt : k < 8
    · have hcell : wr.cell? ⟨w.heap.size, k, none⟩ = some (.int .u8 0) := by rw [hblk.cell, cells8_at _ _ _ hlt]; simp
      have hfz := hblk.frozen k
      go_wp2
      go_roundw
      case rel =>
        refine ⟨k + 1, by omega, by go_num, ?_, hb.setCell (Nat.le_refl _) _⟩
        have h := hblk.set_ k (.int .u8 (n / 256 ^ (7 - k) % 256))
        rw [cells8_set n k hlt] at h
        rwa [shift8 k hlt]
      case measure => simp [intOf]; omega
    · have hcv := run_convert_bytes_arg (P := Try.prog) wr 144 5 Try.underlying144 Try.underlying5 w.heap.size 0 8 8 (nums8 n) rfl (fun i hi => by rw [Nat.zero_add, hblk.cell, cells8_at _ _ _ hi, nums8_at n i hi, if_pos (by omega)]) 9 Try.underlying9
      rw [nums8_be] at hcv
      go_wp2
      go_ret
      exact ⟨rfl, hb⟩

/-- an unsigned number of 64 bits -/
def U64 (n : Int) : Prop := 0 ≤ n ∧ n < 18446744073709551616
end Go.Proofs.Ytjjkdmngmopjbaa
