/- What the laws' seated computes: a bench that may be; and the plain facts on it. -/
import Derived.Test.YtjmkcndjjfokiaaProg
import Derived.Test.YtjmkcndjjfokiaaBench2
namespace Go.Proofs.Ytjmkcndjjfokiaa
open Go.RowKit
def rawSeat (s : Seat) : Seat := ⟨1 + pickS s.who 12, 1 + pickS s.weight 40⟩
def rawBench (l : List Seat) : List Seat := (l.take 64).map rawSeat
def seatedS (l : List Seat) : List Seat := match chooseS (rawBench l) with
  | [] => [⟨1, 1⟩]
  | x :: r => x :: r
theorem rawBench_snoc (l : List Seat) (k : Nat) (hk : k < l.length) : (l.take (k + 1)).map rawSeat = (l.take k).map rawSeat ++ [rawSeat l[k]] := by
  rw [List.take_succ_eq_append_getElem hk, List.map_append]; rfl
set_option maxRecDepth 100000 in
set_option maxHeartbeats 400000 in
theorem seated_any (l : List Seat) (A : Option Addr) (c B : Nat) (w : World) (h : Seats w B A l) (hB : B ≤ w.heap.size) (hl : l.length ≤ 4096) (hwide : Wide l) :
    Calls Try.prog 31 #[.slice A l.length c] w fun e w' => ∃ v, e = .returned v ∧ w'.ownsRow w.heap.size 165 2 v (seatedS l).length (seatsCells (seatedS l)) ∧ Below w.heap.size w w' := by
  obtain ⟨i0, hi0, hz0, hz1, hz2⟩ := info_parts seatInfo
  go_enter Try.func31, Try.ntmps31
  go_wp2
  go_loopw [3, 4] (fun v i wr => ∃ k : Nat, k ≤ l.length ∧ k ≤ 64 ∧ i = .int .i64 k ∧ wr.ownsRow w.heap.size 165 2 v k (seatsCells ((l.take k).map rawSeat)) ∧ Below w.heap.size w wr) (fun _ i _ => l.length - (intOf i).toNat)
  case atStart => exact ⟨0, by omega, by omega, rfl, World.ownsRow_nil _ _ _ _, Below.refl _ _⟩
  case round =>
    obtain ⟨k, hk, hk64, rfl, hown, hb⟩ := hrel
    have hsz := hb.size
    by_cases hcont : k < l.length ∧ k < 64
    · obtain ⟨hlt, h64⟩ := hcont
      obtain ⟨b, off, rfl, hbB, hc0, hc1⟩ := Seats.at_ (h.below (hb.mono hB)) hlt
      obtain ⟨b', off', e, _, hd0, hd1⟩ := Seats.at_ h hlt
      simp only [Option.some.injEq, Addr.mk.injEq, and_true] at e
      obtain ⟨rfl, rfl⟩ := e
      have hw := hwide l[k] (List.getElem_mem hlt)
      have hli : (k : Int) < (l.length : Int) := by omega
      have h64i : (k : Int) < 64 := by omega
      have p0 := pickS_lo l[k].who 12 (by omega)
      have p1 := pickS_hi l[k].who 12 (by omega)
      have p2 := pickS_lo l[k].weight 40 (by omega)
      have p3 := pickS_hi l[k].weight 40 (by omega)
      have e1 : IntKind.i64.wrap (1 + pickS l[k].who 12) = 1 + pickS l[k].who 12 := IntWalk.i64_in _ (by omega)
      have e2 : IntKind.i64.wrap (1 + pickS l[k].weight 40) = 1 + pickS l[k].weight 40 := IntWalk.i64_in _ (by omega)
      have HS := Lib.hid (rawBench_snoc l k hlt)
      go_wp2
      go_region_held3 (fun w' => w'.cell? ⟨b, off + k * 2, none⟩ = some (.int .i64 l[k].who) ∧ w'.cell? ⟨b, off + k * 2 + 1, none⟩ = some (.int .i64 l[k].weight)) (go_keep)
        (first
          | (go_at_call 25; refine (pick_any _ _ _ (by omega) (by omega)).mono ?_; rintro e w' ⟨rfl, rfl⟩)
          | (refine step_append_any _ (by rfl) (.tmp 15) (.tmp 31) 51 (by rfl) w.heap.size 165 i0 _ 2 16 Try.underlying51 hi0 hz0 hz1 hz2 rfl (by omega) _ k _ (by rfl) (by exact own_drewN (hown.alloc _) 1) (wr.heap.size + 1) _ 1 1 [.int .i64 (1 + pickS l[k].who 12), .int .i64 (1 + pickS l[k].weight 40)] (by rfl) (by exact (Rd.laid wr #[.int .i64 (1 + pickS l[k].who 12), .int .i64 (1 + pickS l[k].weight 40)] 165 2 1 rfl).drewN 1) (fun u hu => by simp at hu; rcases hu with rfl | rfl <;> rfl) (by simp [maxLen]; omega) (by omega) (by simp; omega) ?_
             intro v2 w2 hown2 hg2 hat2
             have hb2 : Below w.heap.size w w2 := ((hb.alloc (by omega) _).drewN 1).grown hg2 (by simp; omega) (own_ge hown)
             have hx0 := (hb2.cell (p := ⟨b, off + k * 2, none⟩) (by simp; omega)).trans hd0
             have hx1 := (hb2.cell (p := ⟨b, off + k * 2 + 1, none⟩) (by simp; omega)).trans hd1))
      go_wp2
      go_roundw
      case rel =>
        refine ⟨k + 1, by omega, by omega, by go_num, ?_, hb2⟩
        rw [HS.out, seatsCells_append]
        exact hown2
      case measure => simp [intOf]; omega
    · have hR : Hid (rawBench l = (l.take k).map rawSeat ∧ (rawBench l).length = k) := by
        have e : l.take 64 = l.take k := by
          by_cases h : k < l.length
          · have : k = 64 := by omega
            rw [this]
          · rw [List.take_of_length_le (show l.length ≤ 64 by omega), List.take_of_length_le (show l.length ≤ k by omega)]
        refine ⟨by unfold rawBench; rw [e], ?_⟩
        unfold rawBench
        rw [e]; simp; omega
      obtain ⟨A1, c1, rfl⟩ := own_shape hown
      have hRd : Seats wr wr.heap.size A1 (rawBench l) := by
        show Rd wr wr.heap.size 2 A1 (rawBench l).length (seatsCells (rawBench l))
        rw [hR.out.2, hR.out.1]
        exact Rd.of_own hown
      obtain ⟨m, hm⟩ : ∃ m, m = rawBench l := ⟨_, rfl⟩
      rw [← hm] at hRd
      have hml : m.length = k := by rw [hm]; exact hR.out.2
      have hcs : Calls Try.prog 93 #[.slice A1 k c1] wr fun e w' => ∃ v, e = .returned v ∧ w'.ownsRow wr.heap.size 165 2 v (chooseS m).length (seatsCells (chooseS m)) ∧ Below wr.heap.size wr w' := by
        have := choose_any m A1 c1 wr.heap.size wr hRd (Nat.le_refl _) (by omega)
        rwa [hml] at this
      have HC := Lib.hid hcs
      have HM := Lib.hid hm
      have h2 : (l.length : Int) ≤ k ∨ (64 : Int) ≤ k := by omega
      clear hcs hm hml hRd hown hcont
      rcases h2 with h2 | h2
      all_goals
        go_wp2_with (first
          | (go_at_call 93; refine (HC.out).mono ?_; rintro e w1 ⟨v1, rfl, hown1, hb1⟩
             obtain ⟨A2, c2, rfl⟩ := own_shape hown1))
      all_goals
        have hbz : Below w.heap.size w w1 := hb.trans (hb1.mono hsz)
        first
          | (have hz : (((chooseS m).length : Int) == 0) = true := by assumption
             have hz' : chooseS m = [] := by simpa using hz
             have hS : seatedS l = [⟨1, 1⟩] := by unfold seatedS; rw [← HM.out, hz']
             go_ret
             refine ⟨_, rfl, ?_, hbz.alloc hbz.size _⟩
             rw [hS]
             exact World.ownsRow_lit w1 #[.int .i64 1, .int .i64 1] 1 hbz.size (by simp [maxLen]) rfl)
          | (have hz : (((chooseS m).length : Int) == 0) = false := by assumption
             have hS : seatedS l = chooseS m := by
               unfold seatedS; rw [← HM.out]
               rcases hc : chooseS m with _ | ⟨x, r⟩
               · simp [hc] at hz
               · rfl
             go_ret
             refine ⟨_, rfl, ?_, hbz⟩
             rw [hS]
             exact own_mono hown1 hsz)
end Go.Proofs.Ytjmkcndjjfokiaa
