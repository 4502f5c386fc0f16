/- Of the texts Base, Wire0. -/
import Derived.WalkKit
import Derived.WalkSpells
import Derived.WalkLawsBesides
import Derived.Lib.Hide
import Derived.Deep.AppendLies
import Derived.Deep.Draws
import Derived.Laws.Rows
import Derived.Test.YtlfonmpgenoooaaProg
set_option linter.unusedSimpArgs false
set_option linter.unusedVariables false
namespace Go.Proofs.Ytlfonmpgenoooaa
open Go.RowKit
def bs (l : List UInt8) : ByteArray := ⟨l.toArray⟩
theorem bs_add (a b : List UInt8) : bs a ++ bs b = bs (a ++ b) := by
 unfold bs; apply ByteArray.ext; simp
theorem bs_size (a : List UInt8) : (bs a).size = a.length := by simp [bs, ByteArray.size]
theorem bs_data (a : List UInt8) : (bs a).data.toList = a := rfl
theorem bs_toList (a : List UInt8) : (bs a).toList = a := by rw [ByteArray.toList_eq]; rfl
theorem bs_get (l : List UInt8) (k : Nat) (h : k < (bs l).size) : (bs l)[k] = l[k]'(by rw [bs_size] at h; exact h) := rfl
attribute [go_sem] bs_add bs_size bs_toList bs_data bs_get
def be (n : Int) : Nat → List UInt8
 | 0 => []
 | k + 1 => UInt8.ofNat (n / 256 ^ k % 256).toNat :: be n k
theorem be_len (n : Int) (k : Nat) : (be n k).length = k := by induction k <;> simp [be, *]
attribute [go_sem] be_len
theorem pow256 (k : Nat) : (0 : Int) < 256 ^ k := Int.pow_pos (by omega)
theorem div_step (n : Int) (k : Nat) : n / 256 ^ k / 256 = n / 256 ^ (k + 1) := by
 rw [Int.pow_succ, Int.ediv_ediv_of_nonneg (by have := pow256 k; omega)]
theorem conv1 {P : Program} (src dst e : TypeId) (hs : P.underlying src = some (.slice e)) (he : P.underlying e = some (.int .u8)) (hd : P.underlying dst = some .string) (x0 : Int) (w : World) :
   (convert src dst (.slice (some ⟨w.heap.size, 0, none⟩) 1 1)).run P (w.alloc (.cells #[.int .u8 x0] e)) = .ok (.string (bs [UInt8.ofNat x0.toNat])) (w.alloc (.cells #[.int .u8 x0] e)) := by
  rw [run_convert_bytes_arg (w.alloc (.cells #[.int .u8 x0] e)) src e hs he w.heap.size 0 1 1 [x0] rfl ?_ dst hd]
  · rfl
  · intro i hi
    have : i = 0 := by omega
    subst this
    rw [World.cell?_alloc_mark]; rfl
theorem ret_int {k : IntKind} {a b : Int} (h : a = b) : Ending.returned (.int k a) = .returned (.int k b) := by rw [h]
theorem ret_bool {a b : Bool} (h : a = b) : Ending.returned (.bool a) = .returned (.bool b) := by rw [h]
def Blk (w : World) (g : Nat) (t : TypeId) (cs : Array Value) : Prop := w.heap[g]? = some (.cells cs t (0, 0))
section
variable {w w' : World} {g : Nat} {t : TypeId} {cs : Array Value}
theorem Blk.lt (h : Blk w g t cs) : g < w.heap.size := by
 rcases Nat.lt_or_ge g w.heap.size with hlt | hge
 ·exact hlt
 ·unfold Blk at h; rw [Array.getElem?_eq_none hge] at h; cases h
theorem Blk.cell (h : Blk w g t cs) (i : Nat) : w.cell? ⟨g, i, none⟩ = cs[i]? := cell_of_row w g i cs t (0, 0) h
def nth : List Value → Nat → Option Value
 | [], _ => none
 | a :: _, 0 => some a
 | _ :: l, i + 1 => nth l i
theorem nth_get : ∀ (l : List Value) (i : Nat), nth l i = l[i]?
 | [], _ => by simp [nth]
 | _ :: _, 0 => by simp [nth]
 | _ :: l, i + 1 => by simp [nth, nth_get l i]
theorem Blk.c {w : World} {g : Nat} {t : TypeId} {l : List Value} {v : Value} (h : Blk w g t l.toArray) (i : Nat) (hv : nth l i = some v) : w.cell? ⟨g, i, none⟩ = some v := by rw [Blk.cell h i, ← hv, nth_get]; simp
theorem Blk.frozen (h : Blk w g t cs) (i : Nat) : w.frozen? ⟨g, i, none⟩ = false := by
 unfold Blk at h; simp [World.frozen?, h]
theorem Blk.new (w : World) (t : TypeId) (cs : Array Value) : Blk (w.alloc (.cells cs t)) w.heap.size t cs := heap_alloc_new w _
theorem Blk.drew (h : Blk w g t cs) : Blk w.drew g t cs := h
theorem Blk.drewN (h : Blk w g t cs) (n : Nat) : Blk (w.drewN n) g t cs := h
theorem Blk.alloc (h : Blk w g t cs) (o : Obj) : Blk (w.alloc o) g t cs := (Below.heap_alloc w o g h.lt).trans h
theorem Blk.set_ (h : Blk w g t cs) (i : Nat) (u : Value) : Blk (w.setCell ⟨g, i, none⟩ u) g t (cs.setIfInBounds i u) := by
 unfold Blk at h ⊢
 simp [World.setCell, Array.getElem?_modify, h]
theorem Blk.far (h : Blk w g t cs) {p : Addr} (hp : g ≠ p.block) (u : Value) : Blk (w.setCell p u) g t cs := (Below.heap_setCell w p u g hp).trans h
theorem Blk.below {B : Nat} (h : Blk w g t cs) (hb : Below B w w') (hg : g < B) : Blk w' g t cs := (hb.block g hg).trans h
theorem Blk.grown {row : Option Nat} (h : Blk w g t cs) (hb : w.grownBy w' row) (hg : some g ≠ row) : Blk w' g t cs := (hb.block g h.lt hg).trans h
end
def Rd (w : World) (B size : Nat) (A : Option Addr) (n : Nat) (xs : List Value) : Prop :=
 xs.length = n * size ∧ (0 < n → ∃ b off, A = some ⟨b, off, none⟩ ∧ b < B ∧ ∀ j u, xs[j]? = some u → w.cell? ⟨b, off + j, none⟩ = some u)
section
variable {w w' : World} {B B' size n : Nat} {A : Option Addr} {xs : List Value}
theorem Rd.nil (w : World) (B size : Nat) (A : Option Addr) : Rd w B size A 0 [] := ⟨by simp, fun h => absurd h (by omega)⟩
theorem Rd.at_ {k j : Nat} (h : Rd w B size A n xs) (hk : k < n) (hj : j < size) : ∃ b off u, A = some ⟨b, off, none⟩ ∧ b < B ∧ xs[k * size + j]? = some u ∧ w.cell? ⟨b, off + (k * size + j), none⟩ = some u := by
 obtain ⟨b, off, e, hb, hc⟩ := h.2 (by omega); have hl : k * size + j < xs.length := by
  have h1 := h.1; have h2 : k * size + size ≤ n * size := by rw [← Nat.succ_mul]; exact Nat.mul_le_mul_right _ hk
  omega
 exact ⟨b, off, _, e, hb, List.getElem?_eq_getElem hl, hc _ _ (List.getElem?_eq_getElem hl)⟩
theorem Rd.keep (h : Rd w B size A n xs) (hk : ∀ p : Addr, p.block < B → w'.cell? p = w.cell? p) : Rd w' B size A n xs :=
 ⟨h.1, fun hn => by
  obtain ⟨b, off, e, hb, hc⟩ := h.2 hn; exact ⟨b, off, e, hb, fun j u hu => (hk ⟨b, off + j, none⟩ hb).trans (hc j u hu)⟩⟩
theorem Rd.more (h : Rd w B size A n xs) (hB : B ≤ B') : Rd w B' size A n xs :=
 ⟨h.1, fun hn => by
  obtain ⟨b, off, e, hb, hc⟩ := h.2 hn; exact ⟨b, off, e, by omega, hc⟩⟩
theorem Rd.below (h : Rd w B size A n xs) (hb : Below B w w') : Rd w' B size A n xs := h.keep fun _ hp => hb.cell hp
theorem Rd.drew (h : Rd w B size A n xs) : Rd w.drew B size A n xs := h
theorem Rd.drewN (h : Rd w B size A n xs) (k : Nat) : Rd (w.drewN k) B size A n xs := h
theorem Rd.alloc (h : Rd w B size A n xs) (hB : B ≤ w.heap.size) (o : Obj) : Rd (w.alloc o) B size A n xs := h.keep fun p hp => World.cell?_alloc_lt w o p (by omega)
theorem Rd.setCell (h : Rd w B size A n xs) {p : Addr} (hB : B ≤ p.block) (u : Value) : Rd (w.setCell p u) B size A n xs :=
 h.keep fun q hq => World.cell?_setCell_other w p q u (fun e => by subst e; omega)
def From (base : Nat) (A : Option Addr) : Prop := ∀ b off, A = some ⟨b, off, none⟩ → base ≤ b
theorem Rd.grown (h : Rd w B size A n xs) {row : Option Nat} (hg : w.grownBy w' row) (hB : B ≤ w.heap.size) (hr : ∀ g, row = some g → B ≤ g) : Rd w' B size A n xs :=
 h.keep fun p hp => World.cell?_of_block (hg.block p.block (by omega) (fun e => by have := hr _ e.symm; omega))
theorem Rd.cut (h : Rd w B size A n xs) {k cap : Nat} (hk : k ≤ n) (hc : n ≤ cap) :
  Rd w B size (if cap = k then A else A.map (·.add (k * size))) (n - k) (xs.drop (k * size)) := by
 refine ⟨by rw [List.length_drop, h.1, Nat.sub_mul], fun hn => ?_⟩; obtain ⟨b, off, rfl, hb, hcell⟩ := h.2 (by omega); rw [if_neg (by omega)]; refine ⟨b, off + k * size, ?_, hb, fun j u hu => ?_⟩
 ·show some (Addr.add ⟨b, off, none⟩ (k * size)) = _; unfold Addr.add; split <;> simp_all
 ·rw [Nat.add_assoc]; exact hcell _ u (by rw [← hu, List.getElem?_drop])
theorem Rd.cut_lt {b off : Nat} (h : Rd w B size (some ⟨b, off, none⟩) n xs) {k : Nat} (hk : k < n) : Rd w B size (some ⟨b, off + k * size, none⟩) (n - k) (xs.drop (k * size)) := by
 refine ⟨by rw [List.length_drop, h.1, Nat.sub_mul], fun hn => ?_⟩; obtain ⟨b', off', e, hb, hcell⟩ := h.2 (by omega); simp only [Option.some.injEq, Addr.mk.injEq, and_true] at e; obtain ⟨rfl, rfl⟩ := e; refine ⟨b, off + k * size, rfl, hb, fun j u hu => ?_⟩; rw [Nat.add_assoc]; exact hcell _ u (by rw [← hu, List.getElem?_drop])
theorem Rd.cut_all (h : Rd w B size A n xs) {k : Nat} (hk : ¬ k < n) (A' : Option Addr) : Rd w B size A' (n - k) (xs.drop (k * size)) := by
 have e : n - k = 0 := by omega
 have e2 : xs.drop (k * size) = [] := List.drop_eq_nil_of_le (by rw [h.1]; exact Nat.mul_le_mul_right _ (by omega)); rw [e, e2]; exact Rd.nil _ _ _ _
theorem Rd.take (h : Rd w B size A n xs) {k : Nat} (hk : k ≤ n) : Rd w B size A k (xs.take (k * size)) := by
 refine ⟨by rw [List.length_take, h.1]; exact Nat.min_eq_left (Nat.mul_le_mul_right _ hk), fun hn => ?_⟩; obtain ⟨b, off, rfl, hb, hcell⟩ := h.2 (by omega); refine ⟨b, off, rfl, hb, fun j u hu => hcell j u ?_⟩; rw [List.getElem?_take] at hu; split at hu
 ·exact hu
 ·cases hu
theorem Rd.of_own {base : Nat} {e : TypeId} {c : Nat} (h : w.ownsRow base e size (.slice A n c) n xs) : Rd w w.heap.size size A n xs := by
 refine ⟨h.1, fun hn => ?_⟩; obtain ⟨g, cap, hv, _, hlt⟩ := h.form hn; have hA : A = some ⟨g, 0, none⟩ := by injection hv
 subst hA; refine ⟨_, 0, rfl, hlt, fun j u hu => ?_⟩; have := h.cells (g := g) rfl j u hu; have hadd : (⟨g, 0, none⟩ : Addr).add j = ⟨g, 0 + j, none⟩ := by unfold Addr.add; split <;> simp_all
 rwa [hadd] at this
end
theorem own_below {w w' : World} {base : Nat} {e : TypeId} {size n : Nat} {v : Value} {xs : List Value} (h : w.ownsRow base e size v n xs) (hb : Below w.heap.size w w') : w'.ownsRow base e size v n xs :=
 h.kept (row := none) ⟨hb.os, hb.tape, hb.output, hb.size, fun k hk _ => hb.block k hk⟩ (by cases hv : v.ownBlock <;> simp)
theorem own_cap {w : World} {base : Nat} {e : TypeId} {size n : Nat} {A : Option Addr} {c : Nat} {xs : List Value} (h : w.ownsRow base e size (.slice A n c) n xs) : n ≤ c := by
 rcases h.2 with ⟨e, h0⟩ | ⟨g, cap, cur, e, _, _, h1, _⟩
 ·omega
 ·simp only [Value.slice.injEq] at e; omega
theorem own_shape {w : World} {base : Nat} {e : TypeId} {size n : Nat} {v : Value} {xs : List Value} (h : w.ownsRow base e size v n xs) : ∃ A c, v = .slice A n c := by
 rcases h.2 with ⟨rfl, rfl⟩ | ⟨g, cap, cur, rfl, _⟩
 ·exact ⟨_, _, rfl⟩
 ·exact ⟨_, _, rfl⟩
theorem flatMap_two {α : Type} (f : α → List Value) (hf : ∀ x, (f x).length = 2) : ∀ (l : List α) (k j : Nat) (_ : j < 2), (l.flatMap f)[k * 2 + j]? = (l[k]?).bind fun x => (f x)[j]?
 | [], k, j, _ => by simp
 | x :: l, 0, j, hj => by
  simp only [List.flatMap_cons, Nat.zero_mul, Nat.zero_add]; rw [List.getElem?_append_left (by rw [hf]; omega)]; simp
 | x :: l, k + 1, j, hj => by
  simp only [List.flatMap_cons]; rw [List.getElem?_append_right (by rw [hf]; omega), hf]; have e : (k + 1) * 2 + j - 2 = k * 2 + j := by omega
  rw [e, flatMap_two f hf l k j hj]; simp
theorem cell_laid {w w1 : World} {cs : Array Value} {t : TypeId} {B : Nat} (hb : Below B (w.alloc (.cells cs t)) w1) (hB : w.heap.size < B) (i : Nat) (v : Value) (h : cs[i]? = some v) : w1.cell? ⟨w.heap.size, i, none⟩ = some v := by
 rw [hb.cell (p := ⟨w.heap.size, i, none⟩) hB, World.cell?_alloc_mark]; exact h
theorem Blk.cell_a {w : World} {g : Nat} {t : TypeId} {cs : Array Value} (h : Blk w g t cs) (i : Nat) (v : Value) (hv : cs[i]? = some v) (o : Obj) : (w.alloc o).cell? ⟨g, i, none⟩ = some v := ((h.alloc o).cell i).trans hv
theorem Blk.frozen_a {w : World} {g : Nat} {t : TypeId} {cs : Array Value} (h : Blk w g t cs) (i : Nat) (o : Obj) : (w.alloc o).frozen? ⟨g, i, none⟩ = false := (h.alloc o).frozen i
end Go.Proofs.Ytlfonmpgenoooaa
namespace Go.RowKit
theorem Below.drewN {B : Nat} {a w : World} (h : Below B a w) (n : Nat) : Below B a (w.drewN n) := ⟨h.os, h.tape, h.output, h.size, h.block⟩
end Go.RowKit
namespace Go.Proofs.Ytlfonmpgenoooaa
open Go.RowKit
theorem u64_div (n : Int) (k : Nat) (h0 : 0 ≤ n) (h1 : n < 18446744073709551616) : IntKind.u64.wrap ((n / 256 ^ k).tdiv 256) = n / 256 ^ (k + 1) := by
 have hp := pow256 k; have h2 : 0 ≤ n / 256 ^ k := Int.ediv_nonneg h0 (by omega); have h3 : n / 256 ^ k ≤ n := Int.ediv_le_self _ h0; rw [Int.tdiv_eq_ediv_of_nonneg h2, ← div_step]; have h4 : 0 ≤ n / 256 ^ k / 256 := Int.ediv_nonneg h2 (by omega); have h5 : n / 256 ^ k / 256 ≤ n / 256 ^ k := Int.ediv_le_self _ h2; have h6 : IntKind.u64.wrap (n / 256 ^ k / 256) = n / 256 ^ k / 256 := IntWalk.u64_in _ (by omega); exact h6
set_option maxRecDepth 100000 in
theorem reight_any (n : Int) (w : World) (h0 : 0 ≤ n) (h1 : n < 18446744073709551616) : Calls Try.prog 53 #[.int .u64 n] w fun e w' => e = .returned (.string (bs (be n 8))) ∧ Below w.heap.size w w' := by
 have hc := @conv1 Try.prog 96 9 5 Try.underlying96 Try.underlying5 Try.underlying9; go_enter Try.func53, Try.ntmps53; go_wp2
 go_loopw [0, 3, 4] (fun a s i wr => ∃ k : Nat, k ≤ 8 ∧ i = .int .i64 k ∧ a = .int .u64 (n / 256 ^ k) ∧ s = .string (bs (be n k)) ∧ Below w.heap.size w wr) (fun _ _ i _ => 8 - (intOf i).toNat)
 case atStart => exact ⟨0, by omega, rfl, by simp, rfl, Below.refl _ _⟩
 case round =>
  obtain ⟨k, hk, rfl, rfl, rfl, hb⟩ := hrel; go_wp2
  ·go_roundw
   case rel => exact ⟨k + 1, by omega, by go_num, by rw [u64_div n k h0 h1], rfl, hb.alloc hb.size _⟩
   case measure => simp [intOf]; omega
  ·go_ret; obtain rfl : k = 8 := by omega
   exact ⟨rfl, hb⟩
def cells8 (n : Int) (i : Nat) : Array Value := ((List.range 8).map fun j => Value.int .u8 (if j < i then n / 256 ^ (7 - j) % 256 else 0)).toArray
theorem cells8_size (n : Int) (i : Nat) : (cells8 n i).size = 8 := by simp [cells8]
theorem cells8_at (n : Int) (i k : Nat) (hk : k < 8) : (cells8 n i)[k]? = some (.int .u8 (if k < i then n / 256 ^ (7 - k) % 256 else 0)) := by
 simp [cells8, hk]
theorem cells8_set (n : Int) (i : Nat) (hi : i < 8) : (cells8 n i).setIfInBounds i (.int .u8 (n / 256 ^ (7 - i) % 256)) = cells8 n (i + 1) := by
 apply Array.ext_getElem?; intro j; rw [Array.getElem?_setIfInBounds]
 rcases Nat.lt_or_ge j 8 with hj | hj
 ·rw [cells8_at _ _ _ hj, cells8_at _ _ _ hj, cells8_size]
  by_cases h : i = j
  ·subst h; simp [hi]
  ·rw [if_neg h]; have : (j < i) = (j < i + 1) := by simp; omega
   simp [this]
 ·rw [Array.getElem?_eq_none (by rw [cells8_size]; exact hj), Array.getElem?_eq_none (by rw [cells8_size]; exact hj)]; split <;> simp
  omega
theorem shift8 (k : Nat) (hk : k < 8) : (2 : Int) ^ (56 - 8 * k) = 256 ^ (7 - k) := by
 match k, hk with
 | 0, _ => rfl
 | 1, _ => rfl
 | 2, _ => rfl
 | 3, _ => rfl
 | 4, _ => rfl
 | 5, _ => rfl
 | 6, _ => rfl
 | 7, _ => rfl
def nums8 (n : Int) : List Int := (List.range 8).map fun j => n / 256 ^ (7 - j) % 256
theorem nums8_at (n : Int) (i : Nat) (hi : i < 8) : (nums8 n).getD i 0 = n / 256 ^ (7 - i) % 256 := by
 simp [nums8, List.getD, hi]
theorem nums8_be (n : Int) : strOfNums (nums8 n) = bs (be n 8) := by
 simp [strOfNums, nums8, be, bs, List.range_succ]
set_option maxRecDepth 100000 in
theorem eight_any (n : Int) (w : World) (_h0 : 0 ≤ n) (_h1 : n < 18446744073709551616) : Calls Try.prog 49 #[.int .u64 n] w fun e w' => e = .returned (.string (bs (be n 8))) ∧ Below w.heap.size w w' := by
 have hmk : ∀ W : World, (Instr.makeSlice 96 (.int .i64 8) (.int .i64 8)).run Try.prog W = .ok (.slice (some ⟨W.heap.size, 0, none⟩) 8 8) (W.alloc (.cells (cells8 n 0) 5)) := fun _ => by kernel_rfl
 go_enter Try.func49, Try.ntmps49; go_wp2
 go_loopw [4, 8] (fun j i wr => ∃ k : Nat, k ≤ 8 ∧ i = .int .i64 k ∧ Blk wr w.heap.size 5 (cells8 n k) ∧ Below w.heap.size w wr) (fun _ i _ => 8 - (intOf i).toNat)
 case atStart => exact ⟨0, by omega, rfl, Blk.new _ _ _, (Below.refl _ _).alloc (Nat.le_refl _) _⟩
 case round =>
  obtain ⟨k, hk, rfl, hblk, hb⟩ := hrel; have hl := hblk.lt
  by_cases hlt : k < 8
  ·have hcell : wr.cell? ⟨w.heap.size, k, none⟩ = some (.int .u8 0) := by rw [hblk.cell, cells8_at _ _ _ hlt]; simp
   have hfz := hblk.frozen k; go_wp2
   go_roundw
   case rel =>
    refine ⟨k + 1, by omega, by go_num, ?_, hb.setCell (Nat.le_refl _) _⟩; have h := hblk.set_ k (.int .u8 (n / 256 ^ (7 - k) % 256)); rw [cells8_set n k hlt] at h
    rwa [shift8 k hlt]
   case measure => simp [intOf]; omega
  ·have hcv := run_convert_bytes_arg (P := Try.prog) wr 96 5 Try.underlying96 Try.underlying5 w.heap.size 0 8 8 (nums8 n) rfl (fun i hi => by rw [Nat.zero_add, hblk.cell, cells8_at _ _ _ hi, nums8_at n i hi, if_pos (by omega)]) 9 Try.underlying9; rw [nums8_be] at hcv; go_wp2; go_ret; exact ⟨rfl, hb⟩
end Go.Proofs.Ytlfonmpgenoooaa
