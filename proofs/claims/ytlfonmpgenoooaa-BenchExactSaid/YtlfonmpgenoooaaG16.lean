/- Of the texts Bench1. -/
import Derived.Test.YtlfonmpgenoooaaProg
import Derived.Test.YtlfonmpgenoooaaG04
import Derived.Test.YtlfonmpgenoooaaG05
set_option linter.unusedSimpArgs false
set_option linter.unusedVariables false
namespace Go.Proofs.Ytlfonmpgenoooaa
open Go.RowKit
def Wide (l : List Seat) : Prop := ∀ s ∈ l, (-9223372036854775808 ≤ s.who ∧ s.who ≤ 9223372036854775807) ∧ -9223372036854775808 ≤ s.weight ∧ s.weight ≤ 9223372036854775807
def pickS (c n : Int) : Int := (if c < 0 then -(c + 1) else c) % n
theorem pickS_lo (c n : Int) (h : 0 < n) : 0 ≤ pickS c n := Int.emod_nonneg _ (by omega)
theorem pickS_hi (c n : Int) (h : 0 < n) : pickS c n < n := Int.emod_lt_of_pos _ h
set_option maxRecDepth 100000 in
theorem pick_any (c n : Int) (w : World) (hc : -9223372036854775808 ≤ c) (hn : 1 ≤ n) :
  Calls Try.prog 32 #[.int .i64 c, .int .i64 n] w fun e w' => e = .returned (.int .i64 (pickS c n)) ∧ w = w' := by
 by_cases h : c < 0
 ·go_enter Try.func32, Try.ntmps32; go_wp2; go_ret; exact ⟨ret_int (by unfold pickS; rw [if_pos h, ← Int.neg_tmod, IntWalk.rem_in _ _ (by omega)]), rfl⟩
 ·go_enter Try.func32, Try.ntmps32; go_wp2; go_ret; exact ⟨ret_int (by unfold pickS; rw [if_neg (by omega)]), rfl⟩
def place (l : List Seat) (s : Seat) : Nat := (l.takeWhile fun x => decide (x.who < s.who)).length
def insertS (l : List Seat) (s : Seat) : List Seat := l.take (place l s) ++ s :: l.drop (place l s)
theorem place_le (l : List Seat) (s : Seat) : place l s ≤ l.length := by
 have := List.takeWhile_sublist (fun x : Seat => decide (x.who < s.who)) (l := l); exact this.length_le
theorem place_at (l : List Seat) (s : Seat) (k : Nat) (hk : k < l.length) (h : ∀ j (_ : j < k) (hj : j < l.length), l[j].who < s.who) (h1 : ¬ l[k].who < s.who) : place l s = k := by
 induction l generalizing k with
 | nil => simp at hk
 | cons x l ih =>
  cases k with
  | zero => simp at h1; simp [place, h1]
  | succ k =>
   have h0 := h 0 (by omega) (by simp); simp at h0; have := ih k (by simpa using hk) (fun j hj hjl => by have := h (j + 1) (by omega) (by simpa using hjl); simpa using this) (by simpa using h1); simp [place, h0] at this ⊢
   exact this
theorem place_end (l : List Seat) (s : Seat) (h : ∀ j (hj : j < l.length), l[j].who < s.who) : place l s = l.length := by
 unfold place; have e : ∀ (l : List Seat), (∀ x ∈ l, x.who < s.who) → l.takeWhile (fun x => decide (x.who < s.who)) = l := fun l => by
  induction l with
  | nil => intro _; rfl
  | cons x l ih => intro h; simp [h x (by simp)]; exact ih fun y hy => h y (by simp [hy])
 rw [e l]; intro x hx; obtain ⟨j, hj, rfl⟩ := List.getElem_of_mem hx; exact h j hj
theorem seatInfo : (Try.prog.info? 38).map (fun i => (i.zero, i.size, i.bytes)) = some (some (.agg #[.int .i64 0, .int .i64 0]), 2, 16) := by kernel_rfl
set_option maxRecDepth 100000 in
theorem insert_any (l : List Seat) (s : Seat) (A : Option Addr) (c B : Nat) (w : World) (h : Seats w B A l) (hB : B ≤ w.heap.size) (hl : l.length < 65536) (hc : l.length ≤ c) :
    Calls Try.prog 29 #[.slice A l.length c, .agg #[.int .i64 s.who, .int .i64 s.weight]] w fun e w' => ∃ v, e = .returned v ∧ w'.ownsRow w.heap.size 38 2 v (insertS l s).length (seatsCells (insertS l s)) ∧ Below w.heap.size w w' := by
  obtain ⟨i0, hi0, hz0, hz1, hz2⟩ := info_parts seatInfo
  go_enter Try.func29, Try.ntmps29
  go_wp2
  go_loopw [5] (fun i wr => ∃ (k : Nat), k ≤ l.length ∧ i = .int .i64 k ∧ (∀ j (_ : j < k) (hj : j < l.length), l[j].who < s.who) ∧ Below (w.heap.size + 1) (w.alloc (.cells #[.int .i64 s.who, .int .i64 s.weight] 38)) wr) (fun i _ => l.length - (intOf i).toNat)
  case atStart => exact ⟨0, by omega, rfl, fun j hj => absurd hj (by omega), Below.refl _ _⟩
  case round =>
    obtain ⟨k, hk, rfl, hne, hb⟩ := hrel
    have Hne := Lib.hid hne
    clear hne
    have hW := (h.alloc hB (.cells #[.int .i64 s.who, .int .i64 s.weight] 38)).below (hb.mono (by omega))
    have hp0 := cell_laid hb (by omega) 0 _ rfl
    have hp1 := cell_laid hb (by omega) 1 _ rfl
    have hsz : w.heap.size + 1 ≤ wr.heap.size := by have := hb.size; simpa using this
    have hb0 : Below w.heap.size w wr := ((Below.refl _ _).alloc (Nat.le_refl _) _).trans (hb.mono (by omega))
    by_cases hcont : ∃ hlt : k < l.length, l[k].who < s.who
    · obtain ⟨hlt, hwho⟩ := hcont
      obtain ⟨b, off, rfl, hbB, hc0, hc1⟩ := Seats.at_ hW hlt
      have hg : (k : Int) < (l.length : Int) := by omega
      go_wp2
      go_quiet (fail)
      go_wp2
      go_roundw
      case rel =>
        refine ⟨k + 1, by omega, by go_num, fun j hj hjl => ?_, hb.drewN _⟩
        by_cases e : j = k
        · subst e; assumption
        · exact Hne.out j (by omega) hjl
      case measure => simp [intOf]; omega
    · have HP : Hid (place l s = k) := by
        by_cases hlt : k < l.length
        · exact place_at l s k hlt Hne.out (fun hh => hcont ⟨hlt, hh⟩)
        · have e : k = l.length := by omega
          rw [e]; exact place_end l s fun j hj => Hne.out j (by omega) hj
      have hW' : Seats wr wr.heap.size A l := hW.more (by omega)
      have hown0 : (wr.alloc (.cells #[] 38)).ownsRow w.heap.size 38 2 (.slice (some ⟨wr.heap.size, 0, none⟩) 0 0) 0 [] := World.ownsRow_made (base := w.heap.size) (e := 38) (size := 2) wr #[] 0 (by omega) (by simp [maxLen]) (by simp)
      by_cases hlt : k < l.length
      · have hwho : ¬ l[k].who < s.who := fun hh => hcont ⟨hlt, hh⟩
        obtain ⟨b, off, hA, hbB, hc0, hc1⟩ := Seats.at_ hW hlt
        subst hA
        have hg : (k : Int) < (l.length : Int) := by omega
        clear hcont
        go_wp2
        go_quiet (fail)
        go_wp2_with (first
          | (at_builtin; refine wpList_append_any _ rfl (.tmp 23) (.tmp 26) 22 rfl w.heap.size 38 i0 _ 2 16 Try.underlying22 hi0 hz0 hz1 hz2 rfl (by omega) _ 0 [] (by rfl) (own_drewN hown0 _) wr.heap.size _ k c ((seatsCells l).take (k * 2)) (by rfl) (by exact ((hW'.alloc (Nat.le_refl _) _).drewN _).take hk) (fun u hu => seatsCells_one l u (List.mem_of_mem_take hu)) (by simp [maxLen]; omega) (by omega) (by have := hb0.size; simp; omega) ?_
             intro v1 w1 hown1 hg1 hat1
             simp only [Nat.zero_add, List.nil_append] at hown1
             have hbw1 : Below wr.heap.size wr w1 := (((Below.refl _ wr).alloc (Nat.le_refl _) _).drewN _).grown hg1 (by simp) (by simp [Value.ownBlock])
             have hz1' := hbw1.size
             have hq0 := (hbw1.cell (p := ⟨w.heap.size, 0, none⟩) (by simp; omega)).trans hp0
             have hq1 := (hbw1.cell (p := ⟨w.heap.size, 1, none⟩) (by simp; omega)).trans hp1)
          | (at_builtin; refine wpList_append_any _ rfl (.tmp 28) (.tmp 30) 22 rfl w.heap.size 38 i0 _ 2 16 Try.underlying22 hi0 hz0 hz1 hz2 rfl (by omega) _ k _ (by rfl) (hown1.alloc _) (w1.heap.size + 1) _ 1 1 [.int .i64 s.who, .int .i64 s.weight] (by rfl) (Rd.laid w1 #[.int .i64 s.who, .int .i64 s.weight] 38 2 1 rfl) (fun u hu => by simp at hu; rcases hu with rfl | rfl <;> rfl) (by simp [maxLen]; omega) (by omega) (by simp; omega) ?_
             intro v2 w2 hown2 hg2 hat2
             have hbw2 : Below w.heap.size w w2 := (((hb0.trans (hbw1.mono (by omega)))).alloc (by omega) _).grown hg2 (by simp; omega) (own_ge hown1)
             have hz2' := hbw2.size)
          | (at_builtin; refine wpList_append_any _ rfl (.tmp 32) (.tmp 35) 22 rfl w.heap.size 38 i0 _ 2 16 Try.underlying22 hi0 hz0 hz1 hz2 rfl (by omega) _ (k + 1) _ (by rfl) hown2 w.heap.size _ (l.length - k) (c - k) ((seatsCells l).drop (k * 2)) (by rfl) (by first | exact (Rd.below (h.more hB) hbw2).cut_lt hlt | exact (Rd.below (h.more hB) hbw2).cut_all hlt _) (fun u hu => seatsCells_one l u (List.mem_of_mem_drop hu)) (by simp [maxLen]; omega) (by omega) (by omega) ?_
             intro v3 w3 hown3 hg3 hat3))
        go_ret
        refine ⟨v3, rfl, ?_, hbw2.grown hg3 (by omega) (own_ge hown2)⟩
        have hi : insertS l s = l.take k ++ s :: l.drop k := by unfold insertS; rw [HP.out]
        rw [hi]
        have e1 : (l.take k ++ s :: l.drop k).length = k + 1 + (l.length - k) := by simp; omega
        rw [e1, seatsCells_append, ← seatsCells_take]
        have e2 : seatsCells (s :: l.drop k) = [.int .i64 s.who, .int .i64 s.weight] ++ (seatsCells l).drop (k * 2) := by rw [seatsCells_drop]; rfl
        rw [e2, ← List.append_assoc]
        exact hown3
      · have hg : decide ((k : Int) < (l.length : Int)) = false := by simp; omega
        clear hcont
        go_wp2
        go_quiet (fail)
        go_wp2_with (first
          | (at_builtin; refine wpList_append_any _ rfl (.tmp 23) (.tmp 26) 22 rfl w.heap.size 38 i0 _ 2 16 Try.underlying22 hi0 hz0 hz1 hz2 rfl (by omega) _ 0 [] (by rfl) (own_drewN hown0 _) wr.heap.size _ k c ((seatsCells l).take (k * 2)) (by rfl) (by exact ((hW'.alloc (Nat.le_refl _) _).drewN _).take hk) (fun u hu => seatsCells_one l u (List.mem_of_mem_take hu)) (by simp [maxLen]; omega) (by omega) (by have := hb0.size; simp; omega) ?_
             intro v1 w1 hown1 hg1 hat1
             simp only [Nat.zero_add, List.nil_append] at hown1
             have hbw1 : Below wr.heap.size wr w1 := (((Below.refl _ wr).alloc (Nat.le_refl _) _).drewN _).grown hg1 (by simp) (by simp [Value.ownBlock])
             have hz1' := hbw1.size
             have hq0 := (hbw1.cell (p := ⟨w.heap.size, 0, none⟩) (by simp; omega)).trans hp0
             have hq1 := (hbw1.cell (p := ⟨w.heap.size, 1, none⟩) (by simp; omega)).trans hp1)
          | (at_builtin; refine wpList_append_any _ rfl (.tmp 28) (.tmp 30) 22 rfl w.heap.size 38 i0 _ 2 16 Try.underlying22 hi0 hz0 hz1 hz2 rfl (by omega) _ k _ (by rfl) (hown1.alloc _) (w1.heap.size + 1) _ 1 1 [.int .i64 s.who, .int .i64 s.weight] (by rfl) (Rd.laid w1 #[.int .i64 s.who, .int .i64 s.weight] 38 2 1 rfl) (fun u hu => by simp at hu; rcases hu with rfl | rfl <;> rfl) (by simp [maxLen]; omega) (by omega) (by simp; omega) ?_
             intro v2 w2 hown2 hg2 hat2
             have hbw2 : Below w.heap.size w w2 := (((hb0.trans (hbw1.mono (by omega)))).alloc (by omega) _).grown hg2 (by simp; omega) (own_ge hown1)
             have hz2' := hbw2.size)
          | (at_builtin; refine wpList_append_any _ rfl (.tmp 32) (.tmp 35) 22 rfl w.heap.size 38 i0 _ 2 16 Try.underlying22 hi0 hz0 hz1 hz2 rfl (by omega) _ (k + 1) _ (by rfl) hown2 w.heap.size _ (l.length - k) (c - k) ((seatsCells l).drop (k * 2)) (by rfl) (by first | exact (Rd.below (h.more hB) hbw2).cut_lt hlt | exact (Rd.below (h.more hB) hbw2).cut_all hlt _) (fun u hu => seatsCells_one l u (List.mem_of_mem_drop hu)) (by simp [maxLen]; omega) (by omega) (by omega) ?_
             intro v3 w3 hown3 hg3 hat3))
        all_goals
          go_ret
          refine ⟨v3, rfl, ?_, hbw2.grown hg3 (by omega) (own_ge hown2)⟩
          have hi : insertS l s = l.take k ++ s :: l.drop k := by unfold insertS; rw [HP.out]
          rw [hi]
          have e1 : (l.take k ++ s :: l.drop k).length = k + 1 + (l.length - k) := by simp; omega
          rw [e1, seatsCells_append, ← seatsCells_take]
          have e2 : seatsCells (s :: l.drop k) = [.int .i64 s.who, .int .i64 s.weight] ++ (seatsCells l).drop (k * 2) := by rw [seatsCells_drop]; rfl
          rw [e2, ← List.append_assoc]
          exact hown3
end Go.Proofs.Ytlfonmpgenoooaa
