/- Tries in memory, by package trie: with (all the way down). -/
import Derived.Test.YtkcnoljjilhpoaaProg
import Derived.Test.YtkcnoljjilhpoaaTri6
import Derived.Deep.RegionHeld3
import Derived.Deep.RegionLaw
namespace Go.Proofs.Ytkcnoljjilhpoaa
open Go.RowKit
theorem keepNode {w0 W : World} {g q a b p : Nat} {t : TypeId} {wd : Int} {A : Option Addr} {D : Value} {u0 u1 : Value} (hX : Blk w0 g t #[.int .i64 wd, .pointer A]) (hN : Blk w0 q 148 #[u0, u1, .int .i64 (p : Int), .pointer (some ⟨a, 0, none⟩), .pointer (some ⟨b, 0, none⟩), D]) (h : Below w0.heap.size w0 W) :
    (W.cell? ⟨g, 0, none⟩ = some (.int .i64 wd) ∧ W.cell? ⟨g, 1, none⟩ = some (.pointer A) ∧ W.cell? ⟨q, 2, none⟩ = some (.int .i64 (p : Int)) ∧ W.cell? ⟨q, 3, none⟩ = some (.pointer (some ⟨a, 0, none⟩)) ∧ W.cell? ⟨q, 4, none⟩ = some (.pointer (some ⟨b, 0, none⟩))) ∧ Below w0.heap.size w0 W :=
  ⟨⟨((hX.below h hX.lt).cell 0).trans rfl, ((hX.below h hX.lt).cell 1).trans rfl, ((hN.below h hN.lt).cell 2).trans rfl, ((hN.below h hN.lt).cell 3).trans rfl, ((hN.below h hN.lt).cell 4).trans rfl⟩, h⟩
set_option maxRecDepth 100000 in
set_option maxHeartbeats 4000000 in
/-- one step down -/
theorem withStep_any (wd : Int) (k v : Key) (P : Int) (p : Nat) (l r l' r' : Tr) (q : Nat) (A : Option Addr) (w : World) (hk : k.length ≤ 1000000000) (hp : p ≤ 1000000) (hP : P < 0 ∨ (0 ≤ P ∧ (p : Int) ≤ P)) (h : TrR wd w w.heap.size (.fork p l r) q)
    (hL : bitB k p = false → ∀ a W, TrR wd W W.heap.size l a → Calls Try.prog 88 #[treeV wd A, .pointer (some ⟨a, 0, none⟩), .string (bs k), .string (bs v), .int .i64 P] W fun e w' => ∃ q', e = .returned (.pointer (some ⟨q', 0, none⟩)) ∧ TrR wd w' w'.heap.size l' q' ∧ Below W.heap.size W w')
    (hR : bitB k p = true → ∀ a W, TrR wd W W.heap.size r a → Calls Try.prog 88 #[treeV wd A, .pointer (some ⟨a, 0, none⟩), .string (bs k), .string (bs v), .int .i64 P] W fun e w' => ∃ q', e = .returned (.pointer (some ⟨q', 0, none⟩)) ∧ TrR wd w' w'.heap.size r' q' ∧ Below W.heap.size W w') :
    Calls Try.prog 88 #[treeV wd A, .pointer (some ⟨q, 0, none⟩), .string (bs k), .string (bs v), .int .i64 P] w fun e w' => ∃ q', e = .returned (.pointer (some ⟨q', 0, none⟩)) ∧ TrR wd w' w'.heap.size (if bitB k p then .fork p l r' else .fork p l' r) q' ∧ Below w.heap.size w w' := by
  have hbit := fun W => bit_any k p W hk (by omega)
  have hN : bitN k p = if bitB k p then 1 else 0 := rfl
  rw [hN] at hbit
  clear hN
  have hX : Blk (w.alloc (.cells #[.int .i64 wd, .pointer A] 37)) w.heap.size 37 #[.int .i64 wd, .pointer A] := Blk.new _ _ _
  have hB0 : Below w.heap.size w (w.alloc (.cells #[.int .i64 wd, .pointer A] 37)) := (Below.refl _ _).alloc (Nat.le_refl _) _
  obtain ⟨hq, a, b, hblk, hl, hr⟩ := h.up hB0
  have hl0 := hl.more (Nat.le_of_lt hq)
  have hr0 := hr.more (Nat.le_of_lt hq)
  have hq2 := (hblk.cell 2).trans (show _ = some (Value.int .i64 (p : Int)) from rfl)
  have hq3 := (hblk.cell 3).trans (show _ = some (Value.pointer (some ⟨a, 0, none⟩)) from rfl)
  have hq4 := (hblk.cell 4).trans (show _ = some (Value.pointer (some ⟨b, 0, none⟩)) from rfl)
  have hge : decide ((p : Int) < 0) = false := decide_eq_false (by omega)
  have HF := Lib.hid (fun a b (l r : Tr) W h1 h2 => trfork_any wd p l r a b A W h1 h2)
  have HL := Lib.hid hL
  have HR := Lib.hid hR
  unfold treeV at *
  generalize bitB k p = bb at *
  clear h hL hR hl hr
  generalize hw0 : w.alloc (.cells #[.int .i64 wd, .pointer A] 37) = w0 at *
  have hcase : (decide ((0 : Int) ≤ P) = false) ∨ (decide ((0 : Int) ≤ P) = true ∧ decide (P < (p : Int)) = false) := by
    rcases hP with hn | ⟨h1, h2⟩
    · exact .inl (decide_eq_false (by omega))
    · exact .inr ⟨decide_eq_true h1, decide_eq_false (by omega)⟩
  clear hP
  rcases hcase with d1 | ⟨d1, d2⟩ <;> cases bb <;> simp only [Bool.false_eq_true, if_false, if_true] at hbit ⊢
  all_goals
    go_enter Try.func88, Try.ntmps88
    go_wp2_with fail
    refine (hbit _).mono ?_
    rintro e w1 ⟨rfl, rfl⟩
    clear hbit
    go_wp2_with fail
    go_region_held3 (fun W => (W.cell? ⟨w.heap.size, 0, none⟩ = some (.int .i64 wd) ∧ W.cell? ⟨w.heap.size, 1, none⟩ = some (.pointer A) ∧ W.cell? ⟨q, 2, none⟩ = some (.int .i64 (p : Int)) ∧ W.cell? ⟨q, 3, none⟩ = some (.pointer (some ⟨a, 0, none⟩)) ∧ W.cell? ⟨q, 4, none⟩ = some (.pointer (some ⟨b, 0, none⟩))) ∧ Below w0.heap.size w0 W) (refine keepNode hX hblk ?_ <;> first | exact Below.refl _ _ | exact Below.drew (Below.refl _ _) | exact And.right (by assumption) | exact Below.drew (And.right (by assumption)) | exact callBelow (And.right (by assumption)) (by assumption)) (first
      | (go_at_call 88
         first
          | with_reducible refine (HL.out (by trivial) _ _ (by first | exact hl0 | exact hl0.up (Below.drew (Below.refl _ _)) | exact hl0.up (And.right (by assumption)))).mono ?_
          | with_reducible refine (HR.out (by trivial) _ _ (by first | exact hr0 | exact hr0.up (Below.drew (Below.refl _ _)) | exact hr0.up (And.right (by assumption)))).mono ?_
         rintro e w2 ⟨ql, rfl, htl, hb2⟩)
      | (go_at_call 142
         refine (HF.out _ _ _ _ _ (by first | assumption | exact hl0.up (And.right (by assumption))) (by first | assumption | exact hr0.up (And.right (by assumption)))).mono ?_
         rintro e w3 ⟨qf, rfl, htf, hb3⟩))
    all_goals
      go_wp2_with fail
      go_ret
      exact ⟨_, rfl, by assumption, callBelow hB0 (And.right (by assumption))⟩
set_option maxRecDepth 100000 in
theorem withLeaf_any (wd : Int) (k v a x : Key) (q : Nat) (A : Option Addr) (w : World) (hk : k.length ≤ maxLen) (hv : v.length ≤ maxLen) (h : TrR wd w w.heap.size (.leaf a x) q) :
    Calls Try.prog 88 #[treeV wd A, .pointer (some ⟨q, 0, none⟩), .string (bs k), .string (bs v), .int .i64 (-1)] w fun e w' => ∃ q', e = .returned (.pointer (some ⟨q', 0, none⟩)) ∧ TrR wd w' w'.heap.size (.leaf k v) q' ∧ Below w.heap.size w w' := by
  have hX : Blk (w.alloc (.cells #[.int .i64 wd, .pointer A] 37)) w.heap.size 37 #[.int .i64 wd, .pointer A] := Blk.new _ _ _
  have hB0 : Below w.heap.size w (w.alloc (.cells #[.int .i64 wd, .pointer A] 37)) := (Below.refl _ _).alloc (Nat.le_refl _) _
  have h0 := (h.up hB0).pos
  unfold posT at h0
  have HL := Lib.hid (fun W => leaf_any wd k v A W hk hv)
  unfold treeV at *
  clear h
  generalize hw0 : w.alloc (.cells #[.int .i64 wd, .pointer A] 37) = w0 at *
  have c0 := (hX.cell 0).trans (show _ = some (Value.int .i64 wd) from rfl)
  have c1 := (hX.cell 1).trans (show _ = some (Value.pointer A) from rfl)
  go_enter Try.func88, Try.ntmps88
  go_wp2_with fail
  refine (HL.out _).mono ?_
  rintro e w2 ⟨q', rfl, ht, hb2⟩
  go_wp2_with fail
  go_ret
  exact ⟨_, rfl, ht, callBelow hB0 hb2⟩
theorem withIns_any (wd : Int) (k v : Key) (p : Nat) (A : Option Addr) (hk : k.length ≤ 1000000000) (hv : v.length ≤ maxLen) (hp : p ≤ 1000000) : ∀ (t : Tr) (q : Nat) (w : World), lowT t → TrR wd w w.heap.size t q →
    Calls Try.prog 88 #[treeV wd A, .pointer (some ⟨q, 0, none⟩), .string (bs k), .string (bs v), .int .i64 (p : Int)] w fun e w' => ∃ q', e = .returned (.pointer (some ⟨q', 0, none⟩)) ∧ TrR wd w' w'.heap.size (t.ins k v p) q' ∧ Below w.heap.size w w'
  | .leaf a x, q, w, _, h => withTop_any wd k v p (.leaf a x) q A w hk hv hp (.inl (by simp [posT])) h
  | .fork p0 l r, q, w, hlow, h => by
    rw [Tr.ins]
    by_cases hlt : p < p0
    · rw [if_pos hlt]
      exact withTop_any wd k v p (.fork p0 l r) q A w hk hv hp (.inr (by simp [posT]; omega)) h
    · rw [if_neg hlt]
      exact withStep_any wd k v p p0 l r (l.ins k v p) (r.ins k v p) q A w hk hlow.1 (.inr ⟨by omega, by omega⟩) h
        (fun _ a W ha => withIns_any wd k v p A hk hv hp l a W hlow.2.1 ha) (fun _ a W ha => withIns_any wd k v p A hk hv hp r a W hlow.2.2 ha)
theorem withUpd_any (wd : Int) (k v : Key) (A : Option Addr) (hk : k.length ≤ 1000000000) (hv : v.length ≤ maxLen) : ∀ (t : Tr) (q : Nat) (w : World), lowT t → TrR wd w w.heap.size t q →
    Calls Try.prog 88 #[treeV wd A, .pointer (some ⟨q, 0, none⟩), .string (bs k), .string (bs v), .int .i64 (-1)] w fun e w' => ∃ q', e = .returned (.pointer (some ⟨q', 0, none⟩)) ∧ TrR wd w' w'.heap.size (t.upd k v) q' ∧ Below w.heap.size w w'
  | .leaf a x, q, w, _, h => withLeaf_any wd k v a x q A w (by unfold maxLen; omega) hv h
  | .fork p0 l r, q, w, hlow, h => by
    rw [Tr.upd]
    exact withStep_any wd k v (-1) p0 l r (l.upd k v) (r.upd k v) q A w hk hlow.1 (.inl (by omega)) h
        (fun _ a W ha => withUpd_any wd k v A hk hv l a W hlow.2.1 ha) (fun _ a W ha => withUpd_any wd k v A hk hv r a W hlow.2.2 ha)
end Go.Proofs.Ytkcnoljjilhpoaa
