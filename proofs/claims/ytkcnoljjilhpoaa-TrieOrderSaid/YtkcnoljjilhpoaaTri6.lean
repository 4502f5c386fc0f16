/- Tries in memory, by package trie: with, without, Put. -/
import Derived.Test.YtkcnoljjilhpoaaProg
import Derived.Test.YtkcnoljjilhpoaaTri5
import Derived.Deep.RegionHeld3
import Derived.Deep.RegionLaw
namespace Go.Proofs.Ytkcnoljjilhpoaa
open Go.RowKit
/-- cells that stay -/
theorem keepBox {w0 W : World} {g : Nat} {t : TypeId} {wd : Int} {A : Option Addr} (hX : Blk w0 g t #[.int .i64 wd, .pointer A]) (h : Below w0.heap.size w0 W) : (W.cell? ⟨g, 0, none⟩ = some (.int .i64 wd) ∧ W.cell? ⟨g, 1, none⟩ = some (.pointer A)) ∧ Below w0.heap.size w0 W :=
  ⟨⟨((hX.below h hX.lt).cell 0).trans rfl, ((hX.below h hX.lt).cell 1).trans rfl⟩, h⟩
set_option maxRecDepth 100000 in
set_option maxHeartbeats 2000000 in
/-- a node at the top, with a key beside it -/
theorem withTop_any (wd : Int) (k v : Key) (p : Nat) (t : Tr) (q : Nat) (A : Option Addr) (w : World) (hk : k.length ≤ 1000000000) (hv : v.length ≤ maxLen) (hp : p ≤ 1000000) (hpos : posT t < 0 ∨ (p : Int) < posT t) (h : TrR wd w w.heap.size t q) :
    Calls Try.prog 88 #[treeV wd A, .pointer (some ⟨q, 0, none⟩), .string (bs k), .string (bs v), .int .i64 (p : Int)] w fun e w' => ∃ q', e = .returned (.pointer (some ⟨q', 0, none⟩)) ∧ TrR wd w' w'.heap.size (if bitB k p then .fork p t (.leaf k v) else .fork p (.leaf k v) t) q' ∧ Below w.heap.size w w' := by
  have hbit := fun W => bit_any k p W hk (by omega)
  have hN : bitN k p = if bitB k p then 1 else 0 := rfl
  rw [hN] at hbit
  clear hN
  have hX : Blk (w.alloc (.cells #[.int .i64 wd, .pointer A] 37)) w.heap.size 37 #[.int .i64 wd, .pointer A] := Blk.new _ _ _
  have hB0 : Below w.heap.size w (w.alloc (.cells #[.int .i64 wd, .pointer A] 37)) := (Below.refl _ _).alloc (Nat.le_refl _) _
  have h0 := h.up hB0
  have hq2 := h0.pos
  have hge : decide ((0 : Int) ≤ (p : Int)) = true := decide_eq_true (by omega)
  have hkl : k.length ≤ maxLen := by unfold maxLen; omega
  have HL := Lib.hid (fun W => leaf_any wd k v A W hkl hv)
  have HF := Lib.hid (fun a b (l r : Tr) W h1 h2 => trfork_any wd p l r a b A W h1 h2)
  unfold treeV at *
  generalize bitB k p = bb at *
  generalize posT t = pos at *
  clear h
  generalize hw0 : w.alloc (.cells #[.int .i64 wd, .pointer A] 37) = w0 at *
  have hcase : (decide (pos < 0) = true) ∨ (decide (pos < 0) = false ∧ decide ((p : Int) < pos) = true) := by
    by_cases hn : pos < 0
    · exact .inl (decide_eq_true hn)
    · exact .inr ⟨decide_eq_false hn, decide_eq_true (by omega)⟩
  clear hpos
  rcases hcase with d1 | ⟨d1, d2⟩ <;> cases bb <;> simp only [Bool.false_eq_true, if_false, if_true] at hbit ⊢
  all_goals
    go_enter Try.func88, Try.ntmps88
    go_wp2_with fail
    refine (hbit _).mono ?_
    rintro e w1 ⟨rfl, rfl⟩
    clear hbit
    go_wp2_with fail
    go_region_held3 (fun W => (W.cell? ⟨w.heap.size, 0, none⟩ = some (.int .i64 wd) ∧ W.cell? ⟨w.heap.size, 1, none⟩ = some (.pointer A)) ∧ Below w0.heap.size w0 W) (refine keepBox hX ?_ <;> first | exact Below.refl _ _ | exact Below.drew (Below.refl _ _) | exact And.right (by assumption) | exact Below.drew (And.right (by assumption)) | exact callBelow (And.right (by assumption)) (by assumption)) (first
      | (go_at_call 87
         with_reducible refine (HL.out _).mono ?_
         rintro e w2 ⟨ql, rfl, htl, hb2⟩)
      | (go_at_call 142
         refine (HF.out _ _ _ _ _ (by first | assumption | exact h0.up (And.right (by assumption))) (by first | assumption | exact h0.up (And.right (by assumption)))).mono ?_
         rintro e w3 ⟨qf, rfl, htf, hb3⟩))
    all_goals
      go_wp2_with fail
      go_ret
      exact ⟨_, rfl, by assumption, callBelow hB0 (And.right (by assumption))⟩
end Go.Proofs.Ytkcnoljjilhpoaa
