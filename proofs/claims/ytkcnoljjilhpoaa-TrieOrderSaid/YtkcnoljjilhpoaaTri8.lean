/- Tries in memory, by package trie: without. -/
import Derived.Test.YtkcnoljjilhpoaaProg
import Derived.Test.YtkcnoljjilhpoaaTri7
import Derived.Deep.RegionHeld3
import Derived.Deep.RegionLaw
import Derived.Deep.QuietTactic
import Derived.BigQuiet
namespace Go.Proofs.Ytkcnoljjilhpoaa
open Go.RowKit
def joinL (p : Nat) (l' : Option Tr) (r : Tr) : Option Tr := match l' with | none => some r | some l' => some (.fork p l' r)
def joinR (p : Nat) (l : Tr) (r' : Option Tr) : Option Tr := match r' with | none => some l | some r' => some (.fork p l r')
set_option maxRecDepth 100000 in
set_option maxHeartbeats 4000000 in
theorem withoutStep_any (wd : Int) (k : Key) (p : Nat) (l r : Tr) (l' r' : Option Tr) (q : Nat) (A : Option Addr) (w : World) (hk : k.length ≤ 1000000000) (hp : p ≤ 1000000) (h : TrR wd w w.heap.size (.fork p l r) q)
    (hL : bitB k p = false → ∀ a W, TrR wd W W.heap.size l a → Calls Try.prog 86 #[treeV wd A, .pointer (some ⟨a, 0, none⟩), .string (bs k)] W fun e w' => ∃ a', e = .returned (.pointer a') ∧ OTrR wd w' w'.heap.size l' a' ∧ Below W.heap.size W w')
    (hR : bitB k p = true → ∀ a W, TrR wd W W.heap.size r a → Calls Try.prog 86 #[treeV wd A, .pointer (some ⟨a, 0, none⟩), .string (bs k)] W fun e w' => ∃ a', e = .returned (.pointer a') ∧ OTrR wd w' w'.heap.size r' a' ∧ Below W.heap.size W w') :
    Calls Try.prog 86 #[treeV wd A, .pointer (some ⟨q, 0, none⟩), .string (bs k)] w fun e w' => ∃ a', e = .returned (.pointer a') ∧ OTrR wd w' w'.heap.size (if bitB k p then joinR p l r' else joinL p l' r) a' ∧ Below w.heap.size w w' := by
  have hbit := fun W => bit_any k p W hk (by omega)
  have hN : bitN k p = if bitB k p then 1 else 0 := rfl
  rw [hN] at hbit
  clear hN
  have hX : Blk (w.alloc (.cells #[.int .i64 wd, .pointer A] 37)) w.heap.size 37 #[.int .i64 wd, .pointer A] := Blk.new _ _ _
  have hB0 : Below w.heap.size w (w.alloc (.cells #[.int .i64 wd, .pointer A] 37)) := ((Below.refl _ _).alloc (Nat.le_refl _) _)
  obtain ⟨hq, a, b, hblk, hl, hr⟩ := h.up hB0
  have hl0 := hl.more (Nat.le_of_lt hq)
  have hr0 := hr.more (Nat.le_of_lt hq)
  have hq2 := (hblk.cell 2).trans (show _ = some (Value.int .i64 (p : Int)) from rfl)
  have hq3 := (hblk.cell 3).trans (show _ = some (Value.pointer (some ⟨a, 0, none⟩)) from rfl)
  have hq4 := (hblk.cell 4).trans (show _ = some (Value.pointer (some ⟨b, 0, none⟩)) from rfl)
  have hge : decide ((p : Int) < 0) = false := decide_eq_false (by omega)
  have HF := Lib.hid (fun a b (l r : Tr) W h1 h2 => trfork_any wd p l r a b A W h1 h2)
  have HL := Lib.hid hL
  have HR := Lib.hid hR
  unfold treeV at *
  generalize hw0 : w.alloc (.cells #[.int .i64 wd, .pointer A] 37) = w0 at *
  generalize bitB k p = bb at *
  clear h hL hR hl hr
  cases bb
  · simp only [Bool.false_eq_true, if_false, if_true] at hbit ⊢
    go_enter Try.func86, Try.ntmps86
    go_wp2_with fail
    go_quiet (fail)
    go_wp2_with fail
    refine (hbit _).mono ?_
    rintro e w1 ⟨rfl, hw1⟩
    have hd : Below w0.heap.size w0 w1 := by rw [← hw1]; exact (Below.refl _ _).drewN _
    clear hw1
    have hl1 := hl0.up hd
    have hr1 := hr0.up hd
    have hX1 := hX.below hd hX.lt
    have hblk1 := hblk.below hd hblk.lt
    have hB1 := callBelow hB0 hd
    clear hl0 hr0 hX hblk hq2 hq3 hq4 hB0 hd hq
    have c0 := (hX1.cell 0).trans (show _ = some (Value.int .i64 wd) from rfl)
    have c1 := (hX1.cell 1).trans (show _ = some (Value.pointer A) from rfl)
    clear hbit
    go_wp2_with fail
    with_reducible refine (HL.out (by trivial) _ _ hl1).mono ?_
    rintro e w2 ⟨a', rfl, ho, hb2⟩
    have hl2 := hl1.up hb2
    have hr2 := hr1.up hb2
    have hX2 := hX1.below hb2 hX1.lt
    have hblk2 := hblk1.below hb2 hblk1.lt
    have hB2 := callBelow hB1 hb2
    clear hl1 hr1 hX1 hblk1 HL HR hB1 hb2 c0 c1
    cases l' with
    | none =>
      obtain rfl : a' = none := ho
      clear HF
      go_wp2_with fail
      go_ret
      exact ⟨_, rfl, ⟨_, rfl, hr2⟩, hB2⟩
    | some u =>
      obtain ⟨qu, rfl, hu⟩ := ho
      go_wp2_with fail
      go_region_held3 (fun W => (W.cell? ⟨w.heap.size, 0, none⟩ = some (.int .i64 wd) ∧ W.cell? ⟨w.heap.size, 1, none⟩ = some (.pointer A) ∧ W.cell? ⟨q, 2, none⟩ = some (.int .i64 (p : Int)) ∧ W.cell? ⟨q, 3, none⟩ = some (.pointer (some ⟨a, 0, none⟩)) ∧ W.cell? ⟨q, 4, none⟩ = some (.pointer (some ⟨b, 0, none⟩))) ∧ Below w2.heap.size w2 W) (refine keepNode hX2 hblk2 ?_ <;> first | exact Below.refl _ _ | exact Below.drew (Below.refl _ _) | exact And.right (by assumption) | exact Below.drew (And.right (by assumption)) | exact callBelow (And.right (by assumption)) (by assumption)) (first
        | (go_at_call 142
           refine (HF.out _ _ _ _ _ (by first | assumption | exact hu.up (Below.drew (Below.refl _ _)) | exact hu.up (And.right (by assumption))) (by first | assumption | exact hr2.up (Below.drew (Below.refl _ _)) | exact hr2.up (And.right (by assumption)))).mono ?_
           rintro e w3 ⟨qf, rfl, htf, hb3⟩))
      all_goals
        go_wp2_with fail
        go_ret
        exact ⟨_, rfl, ⟨_, rfl, by assumption⟩, callBelow hB2 (And.right (by assumption))⟩
  · simp only [Bool.false_eq_true, if_false, if_true] at hbit ⊢
    go_enter Try.func86, Try.ntmps86
    go_wp2_with fail
    go_quiet (fail)
    go_wp2_with fail
    refine (hbit _).mono ?_
    rintro e w1 ⟨rfl, hw1⟩
    have hd : Below w0.heap.size w0 w1 := by rw [← hw1]; exact (Below.refl _ _).drewN _
    clear hw1
    have hl1 := hl0.up hd
    have hr1 := hr0.up hd
    have hX1 := hX.below hd hX.lt
    have hblk1 := hblk.below hd hblk.lt
    have hB1 := callBelow hB0 hd
    clear hl0 hr0 hX hblk hq2 hq3 hq4 hB0 hd hq
    have c0 := (hX1.cell 0).trans (show _ = some (Value.int .i64 wd) from rfl)
    have c1 := (hX1.cell 1).trans (show _ = some (Value.pointer A) from rfl)
    clear hbit
    go_wp2_with fail
    with_reducible refine (HR.out (by trivial) _ _ hr1).mono ?_
    rintro e w2 ⟨a', rfl, ho, hb2⟩
    have hl2 := hl1.up hb2
    have hr2 := hr1.up hb2
    have hX2 := hX1.below hb2 hX1.lt
    have hblk2 := hblk1.below hb2 hblk1.lt
    have hB2 := callBelow hB1 hb2
    clear hl1 hr1 hX1 hblk1 HL HR hB1 hb2 c0 c1
    cases r' with
    | none =>
      obtain rfl : a' = none := ho
      clear HF
      go_wp2_with fail
      go_ret
      exact ⟨_, rfl, ⟨_, rfl, hl2⟩, hB2⟩
    | some u =>
      obtain ⟨qu, rfl, hu⟩ := ho
      go_wp2_with fail
      go_region_held3 (fun W => (W.cell? ⟨w.heap.size, 0, none⟩ = some (.int .i64 wd) ∧ W.cell? ⟨w.heap.size, 1, none⟩ = some (.pointer A) ∧ W.cell? ⟨q, 2, none⟩ = some (.int .i64 (p : Int)) ∧ W.cell? ⟨q, 3, none⟩ = some (.pointer (some ⟨a, 0, none⟩)) ∧ W.cell? ⟨q, 4, none⟩ = some (.pointer (some ⟨b, 0, none⟩))) ∧ Below w2.heap.size w2 W) (refine keepNode hX2 hblk2 ?_ <;> first | exact Below.refl _ _ | exact Below.drew (Below.refl _ _) | exact And.right (by assumption) | exact Below.drew (And.right (by assumption)) | exact callBelow (And.right (by assumption)) (by assumption)) (first
        | (go_at_call 142
           refine (HF.out _ _ _ _ _ (by first | assumption | exact hl2.up (Below.drew (Below.refl _ _)) | exact hl2.up (And.right (by assumption))) (by first | assumption | exact hu.up (Below.drew (Below.refl _ _)) | exact hu.up (And.right (by assumption)))).mono ?_
           rintro e w3 ⟨qf, rfl, htf, hb3⟩))
      all_goals
        go_wp2_with fail
        go_ret
        exact ⟨_, rfl, ⟨_, rfl, by assumption⟩, callBelow hB2 (And.right (by assumption))⟩
theorem del_fork (k : Key) (p : Nat) (l r : Tr) : (Tr.fork p l r).del k = if bitB k p then joinR p l (r.del k) else joinL p (l.del k) r := by
  rw [Tr.del]
  unfold joinR joinL
  split <;> rfl
set_option maxRecDepth 100000 in
theorem withoutLeaf_any (wd : Int) (k a x : Key) (q : Nat) (A : Option Addr) (w : World) (h : TrR wd w w.heap.size (.leaf a x) q) :
    Calls Try.prog 86 #[treeV wd A, .pointer (some ⟨q, 0, none⟩), .string (bs k)] w fun e w' => ∃ a', e = .returned (.pointer a') ∧ OTrR wd w' w'.heap.size none a' ∧ Below w.heap.size w w' := by
  have hB0 : Below w.heap.size w (w.alloc (.cells #[.int .i64 wd, .pointer A] 37)) := (Below.refl _ _).alloc (Nat.le_refl _) _
  have h0 := (h.up hB0).pos
  unfold posT at h0
  unfold treeV
  go_enter Try.func86, Try.ntmps86
  go_wp2_with fail
  go_ret
  exact ⟨_, rfl, rfl, hB0⟩
theorem without_any (wd : Int) (k : Key) (A : Option Addr) (hk : k.length ≤ 1000000000) : ∀ (t : Tr) (q : Nat) (w : World), lowT t → TrR wd w w.heap.size t q →
    Calls Try.prog 86 #[treeV wd A, .pointer (some ⟨q, 0, none⟩), .string (bs k)] w fun e w' => ∃ a', e = .returned (.pointer a') ∧ OTrR wd w' w'.heap.size (t.del k) a' ∧ Below w.heap.size w w'
  | .leaf a x, q, w, _, h => withoutLeaf_any wd k a x q A w h
  | .fork p0 l r, q, w, hlow, h => by
    rw [del_fork]
    exact withoutStep_any wd k p0 l r (l.del k) (r.del k) q A w hk hlow.1 h
        (fun _ a W ha => without_any wd k A hk l a W hlow.2.1 ha) (fun _ a W ha => without_any wd k A hk r a W hlow.2.2 ha)
end Go.Proofs.Ytkcnoljjilhpoaa
