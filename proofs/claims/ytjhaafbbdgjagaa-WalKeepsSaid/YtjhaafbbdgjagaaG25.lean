/- Of the texts Wr4, Wr5, Wr3, Wr6. -/
import Derived.Test.YtjhaafbbdgjagaaProg
import Derived.Test.YtjhaafbbdgjagaaG22
import Derived.Test.YtjhaafbbdgjagaaG24
import Derived.BigGuardPart
set_option linter.unusedSimpArgs false
set_option linter.unusedVariables false
namespace Go.Proofs.Ytjhaafbbdgjagaa
open Go.RowKit
set_option maxRecDepth 100000 in
set_option maxHeartbeats 400000 in
theorem wvote_any (x : VoteD) (hx : x.ok) (w : World) (g : Nat) (S : Out) (h : Wrt w g S) (hl : S.b.length + 200 ≤ 70368744177000) :
  Calls Try.prog 27 #[.pointer (some ⟨g, 0, none⟩), x.val] w fun e w' => e = .returned (.tuple #[]) ∧ Wrt w' g (S.vote x) ∧ Turned w w' g := by
 have hgt := h.lt; have hE : Hid (S.vote x = ((((S.nums [x.h, x.r, x.s]).flag x.has).dig x.b).num x.f).need (voteOk x)) := rfl; have hK : Hid (voteOk x = (decide (x.s ≤ 2) && decide (1 ≤ x.f) && (x.has || (decide (x.b = 0) && !decide (x.s = 0))))) := rfl; obtain ⟨x1, x2, x3, x4, x5, x6⟩ := x; obtain ⟨hx0, hx1⟩ := hx; dsimp only at hx0 hx1; dsimp only [VoteD.val]; go_enter Try.func27, Try.ntmps27; go_wp2_with fail; have ll1 := S.nums_len [x1, x2, x3]; simp only [List.length_cons, List.length_nil] at ll1; refine (numbers_any [x1, x2, x3] 3 _ g (w.heap.size + 1) S ((h.alloc _).alloc _) (by have hN := Blk.new (w.alloc (.cells #[.int .i64 x1, .int .i64 x2, .int .i64 x3, .bool x4, .int .u64 x5, .int .i64 x6] 29)) 3 #[.int .i64 x1, .int .i64 x2, .int .i64 x3]; simpa using hN) (by omega) (by simp; omega)).mono ?_; rintro e w1 ⟨rfl, hW1, hC1⟩; have hB1 := hC1.blk ((Blk.new _ _ _).alloc _) (by omega) (by decide); have hT1 := (((Turned.refl w g).alloc (by omega) _).alloc (by simp; omega) _).trans hC1; have hlt1 := hB1.lt; have hgl1 := hW1.lt; generalize S.nums [x1, x2, x3] = S1 at *; have c1_0 := hB1.c 0 rfl; have c1_1 := hB1.c 1 rfl; have c1_2 := hB1.c 2 rfl; have c1_3 := hB1.c 3 rfl; have c1_4 := hB1.c 4 rfl; have c1_5 := hB1.c 5 rfl; go_wp2_with fail; refine (flag_any _ _ g _ hW1 (by omega)).mono ?_; rintro e w2 ⟨rfl, hW2, hC2⟩; have hB2 := hC2.blk hB1 (by omega) (by decide); have hT2 := hT1.trans hC2; have hlt2 := hB2.lt; have hgl2 := hW2.lt; have ll2 := (by simp [Out.flag] : (S1.flag x4).b.length ≤ S1.b.length + 1)
 generalize S1.flag x4 = S2 at *; have c2_0 := hB2.c 0 rfl; have c2_1 := hB2.c 1 rfl; have c2_2 := hB2.c 2 rfl; have c2_3 := hB2.c 3 rfl; have c2_4 := hB2.c 4 rfl; have c2_5 := hB2.c 5 rfl; go_wp2_with fail; refine (digest_any _ _ g _ hW2 (by omega) (by omega) (by omega)).mono ?_; rintro e w3 ⟨rfl, hW3, hC3⟩; have hB3 := hC3.blk hB2 (by omega) (by decide); have hT3 := hT2.trans hC3; have hlt3 := hB3.lt; have hgl3 := hW3.lt; have ll3 := (by simp [Out.dig, be_len] : (S2.dig x5).b.length ≤ S2.b.length + 8)
 generalize S2.dig x5 = S3 at *; have c3_0 := hB3.c 0 rfl; have c3_1 := hB3.c 1 rfl; have c3_2 := hB3.c 2 rfl; have c3_3 := hB3.c 3 rfl; have c3_4 := hB3.c 4 rfl; have c3_5 := hB3.c 5 rfl; go_wp2_with fail; refine (number_any _ _ g _ hW3 (by omega)).mono ?_; rintro e w4 ⟨rfl, hW4, hC4⟩; have hB4 := hC4.blk hB3 (by omega) (by decide); have hT4 := hT3.trans hC4; have hlt4 := hB4.lt; have hgl4 := hW4.lt; have ll4 := S3.num_len x6; generalize S3.num x6 = S4 at *; have c4_0 := hB4.c 0 rfl; have c4_1 := hB4.c 1 rfl; have c4_2 := hB4.c 2 rfl; have c4_3 := hB4.c 3 rfl; have c4_4 := hB4.c 4 rfl; have c4_5 := hB4.c 5 rfl; go_wp2_with fail
 all_goals
  refine (need_any _ _ g _ hW4).mono ?_; rintro e w5 ⟨rfl, hW5, hC5⟩; have hB5 := hC5.blk hB4 (by omega) (by decide); have hT5 := hT4.trans hC5; have hlt5 := hB5.lt; have hgl5 := hW5.lt; go_wp2_with fail
  go_end0
  exact ⟨rfl, Wrt.eq hW5 (by rw [hE.out, hK.out] <;> (first | rfl | (congr 1; grind))), hT5⟩
set_option maxRecDepth 100000 in
set_option maxHeartbeats 400000 in
theorem wturn_any (x : TurnD) (hx : x.ok) (w : World) (g : Nat) (S : Out) (h : Wrt w g S) (hl : S.b.length + 200 ≤ 70368744177000) :
  Calls Try.prog 76 #[.pointer (some ⟨g, 0, none⟩), x.val] w fun e w' => e = .returned (.tuple #[]) ∧ Wrt w' g (S.turn x) ∧ Turned w w' g := by
 have hgt := h.lt; have hE : Hid (S.turn x = ((S.num x.p).dig x.d).lim x.p 287) := rfl; obtain ⟨x1, x2⟩ := x; obtain ⟨hx0, hx1⟩ := hx; dsimp only at hx0 hx1; dsimp only [TurnD.val]; go_enter Try.func76, Try.ntmps76; go_wp2_with fail; refine (number_any _ _ g _ (h.alloc _) (by omega)).mono ?_; rintro e w1 ⟨rfl, hW1, hC1⟩; have hB1 := hC1.blk (Blk.new _ _ _) (by omega) (by decide); have hT1 := ((Turned.refl w g).alloc (by omega) _).trans hC1; have hlt1 := hB1.lt; have hgl1 := hW1.lt; have ll1 := S.num_len x1; generalize S.num x1 = S1 at *; have c1_0 := hB1.c 0 rfl; have c1_1 := hB1.c 1 rfl; go_wp2_with fail; refine (digest_any _ _ g _ hW1 (by omega) (by omega) (by omega)).mono ?_; rintro e w2 ⟨rfl, hW2, hC2⟩; have hB2 := hC2.blk hB1 (by omega) (by decide); have hT2 := hT1.trans hC2; have hlt2 := hB2.lt; have hgl2 := hW2.lt; have ll2 := (by simp [Out.dig, be_len] : (S1.dig x2).b.length ≤ S1.b.length + 8)
 generalize S1.dig x2 = S2 at *; have c2_0 := hB2.c 0 rfl; have c2_1 := hB2.c 1 rfl; go_wp2_with fail; refine (limited_any _ _ _ g _ hW2).mono ?_; rintro e w3 ⟨rfl, hW3, hC3⟩; have hB3 := hC3.blk hB2 (by omega) (by decide); have hT3 := hT2.trans hC3; have hlt3 := hB3.lt; have hgl3 := hW3.lt; generalize S2.lim x1 287 = S3 at *; go_wp2_with fail
 go_end0
 exact ⟨rfl, Wrt.eq hW3 (by rw [hE.out] <;> (first | rfl | (congr 1; grind))), hT3⟩
set_option maxRecDepth 100000 in
set_option maxHeartbeats 400000 in
theorem wseat1_any (x : Seat) (w : World) (g : Nat) (S : Out) (h : Wrt w g S) (hl : S.b.length + 200 ≤ 70368744177000) :
  Calls Try.prog 81 #[.pointer (some ⟨g, 0, none⟩), x.val] w fun e w' => e = .returned (.tuple #[]) ∧ Wrt w' g (S.seat x) ∧ Turned w w' g := by
 have hgt := h.lt; have hE : Hid (S.seat x = S.nums [x.who, x.weight]) := rfl; obtain ⟨x1, x2⟩ := x; dsimp only [Seat.val]; go_enter Try.func81, Try.ntmps81
 go_wp2_with fail; have ll1 := S.nums_len [x1, x2]; simp only [List.length_cons, List.length_nil] at ll1; refine (numbers_any [x1, x2] 2 _ g (w.heap.size + 1) S ((h.alloc _).alloc _) (by have hN := Blk.new (w.alloc (.cells #[.int .i64 x1, .int .i64 x2] 173)) 3 #[.int .i64 x1, .int .i64 x2]; simpa using hN) (by omega) (by simp; omega)).mono ?_; rintro e w1 ⟨rfl, hW1, hC1⟩; have hB1 := hC1.blk ((Blk.new _ _ _).alloc _) (by omega) (by decide); have hT1 := (((Turned.refl w g).alloc (by omega) _).alloc (by simp; omega) _).trans hC1; have hlt1 := hB1.lt; have hgl1 := hW1.lt; generalize S.nums [x1, x2] = S1 at *; go_wp2_with fail
 go_end0
 exact ⟨rfl, Wrt.eq hW1 (by rw [hE.out] <;> grind), hT1⟩
set_option maxRecDepth 100000 in
set_option maxHeartbeats 400000 in
theorem putsSeat_any (l : List Seat) (A : Option Addr) (c B : Nat) (m : Int) (w : World) (g : Nat) (S : Out) (h : Wrt w g S) (hr : SeatsL w B A l) (hB : B ≤ g) (hl : S.b.length + 6 + sumL seatW l ≤ 70368744176000) (hm : l.length ≤ maxLen) :
  Calls Try.prog 80 #[.pointer (some ⟨g, 0, none⟩), .slice A l.length c, .int .i64 m, .func (.func 81) #[] #[]] w fun e w' => e = .returned (.tuple #[]) ∧ Wrt w' g (S.list l m Out.seat) ∧ Turned w w' g := by
 unfold maxLen at hm; have hgt := h.lt; have hn := ((S.lim l.length m).num_len l.length)
 have hb0 : (S.lim l.length m).b.length = S.b.length := rfl; have hE : Hid (S.list l m Out.seat = l.foldl Out.seat ((S.lim l.length m).num l.length)) := rfl; go_enter Try.func80, Try.ntmps80; go_wp2_with fail; refine (limited_any _ _ _ g _ h).mono ?_; rintro e w1 ⟨rfl, hW1, hT1⟩; go_wp2_with fail; refine (number_any _ _ g _ hW1 (by omega)).mono ?_; rintro e w2 ⟨rfl, hW2, hT2⟩; have hT02 := hT1.trans hT2; clear hT1 hT2 hW1; generalize (S.lim l.length m).num l.length = S2 at *; go_wp2_with fail
 go_loopw [9, 21] (fun _ i wr => ∃ j : Nat, i = .int .i64 (j : Int) ∧ j ≤ l.length ∧ Wrt wr g ((l.take j).foldl Out.seat S2) ∧ Turned w wr g) (fun _ i _ => l.length - (intOf i).toNat)
 case atStart => exact ⟨0, rfl, by omega, by simpa using hW2, hT02⟩
 case round =>
  obtain ⟨j, rfl, hj, hW, hT⟩ := hrel; have hgw := hW.lt
  by_cases hlt : j < l.length
  ·have hji : (j : Int) < (l.length : Int) := by omega
   obtain ⟨b, off, rfl, hbB, hc⟩ := SeatsL.at_ (hT.rd hr hB) hlt; have HS := Lib.hid (fold_take Out.seat S2 l j hlt); have hle := fold_len Out.seat seatW Out.seat_len (l.take j) S2; have hle2 := sumL_take seatW l j hlt; generalize hx : l[j] = x at *; clear hx; have c0 : wr.cell? ⟨b, off + j * 2, none⟩ = some (.int .i64 x.who) := hc 0 _ rfl; have c1 : wr.cell? ⟨b, off + j * 2 + 1, none⟩ = some (.int .i64 x.weight) := hc 1 _ rfl; clear hc; go_wp2_with fail; refine (wseat1_any x _ g _ (hW.alloc _) (by unfold seatW at *; omega)).mono ?_; rintro e w3 ⟨rfl, hW3, hT3⟩; go_wp2_with fail
   go_roundw
   case rel => exact ⟨j + 1, by go_num, by omega, by rw [HS.out]; exact hW3, (hT.alloc (Nat.le_of_lt hgw) _).trans hT3⟩
   case measure => simp [intOf]; omega
  ·have hji : ¬ (j : Int) < (l.length : Int) := by omega
   go_wp2
   go_end0
   rw [List.take_of_length_le (by omega)] at hW; exact ⟨rfl, by rw [hE.out]; exact hW, hT⟩
end Go.Proofs.Ytjhaafbbdgjagaa
