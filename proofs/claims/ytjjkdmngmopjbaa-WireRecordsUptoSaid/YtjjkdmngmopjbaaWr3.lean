/- The program's writer: votes, parcels, accounts, turns. -/
import Derived.Test.YtjjkdmngmopjbaaProg
import Derived.Test.YtjjkdmngmopjbaaWr2
import Derived.Test.YtjjkdmngmopjbaaWrS
import Derived.BigGuardPart
namespace Go.Proofs.Ytjjkdmngmopjbaa
open Go.RowKit
set_option maxRecDepth 100000 in
set_option maxHeartbeats 400000 in
theorem wvote_any (x : VoteD) (hx : x.ok) (w : World) (g : Nat) (S : Out) (h : Wrt w g S) (hl : S.b.length + 200 ≤ 70368744177000) :
    Calls Try.prog 93 #[.pointer (some ⟨g, 0, none⟩), x.val] w fun e w' => e = .returned (.tuple #[]) ∧ Wrt w' g (S.vote x) ∧ Turned w w' g := by
  have hgt := h.lt
  have hE : Hid (S.vote x = ((((S.nums [x.h, x.r, x.s]).flag x.has).dig x.b).num x.f).need (voteOk x)) := rfl
  have hK : Hid (voteOk x = (decide (x.s ≤ 2) && decide (1 ≤ x.f) && (x.has || (decide (x.b = 0) && !decide (x.s = 0))))) := rfl
  obtain ⟨x1, x2, x3, x4, x5, x6⟩ := x
  obtain ⟨hx0, hx1⟩ := hx
  dsimp only at hx0 hx1
  dsimp only [VoteD.val]
  go_enter Try.func93, Try.ntmps93
  go_wp2_with fail
  have ll1 := S.nums_len [x1, x2, x3]
  simp only [List.length_cons, List.length_nil] at ll1
  refine (numbers_any [x1, x2, x3] 3 _ g (w.heap.size + 1) S ((h.alloc _).alloc _) (by have hN := Blk.new (w.alloc (.cells #[.int .i64 x1, .int .i64 x2, .int .i64 x3, .bool x4, .int .u64 x5, .int .i64 x6] 25)) 3 #[.int .i64 x1, .int .i64 x2, .int .i64 x3]; simpa using hN) (by omega) (by simp; omega)).mono ?_
  rintro e w1 ⟨rfl, hW1, hC1⟩
  have hB1 := hC1.blk ((Blk.new _ _ _).alloc _) (by omega) (by decide)
  have hT1 := (((Turned.refl w g).alloc (by omega) _).alloc (by simp; omega) _).trans hC1
  have hlt1 := hB1.lt
  have hgl1 := hW1.lt
  generalize S.nums [x1, x2, x3] = S1 at *
  have c1_0 := (hB1.cell 0).trans (show _ = some (.int .i64 x1) from rfl)
  have c1_1 := (hB1.cell 1).trans (show _ = some (.int .i64 x2) from rfl)
  have c1_2 := (hB1.cell 2).trans (show _ = some (.int .i64 x3) from rfl)
  have c1_3 := (hB1.cell 3).trans (show _ = some (.bool x4) from rfl)
  have c1_4 := (hB1.cell 4).trans (show _ = some (.int .u64 x5) from rfl)
  have c1_5 := (hB1.cell 5).trans (show _ = some (.int .i64 x6) from rfl)
  go_wp2_with fail
  refine (flag_any _ _ g _ hW1 (by omega)).mono ?_
  rintro e w2 ⟨rfl, hW2, hC2⟩
  have hB2 := hC2.blk hB1 (by omega) (by decide)
  have hT2 := hT1.trans hC2
  have hlt2 := hB2.lt
  have hgl2 := hW2.lt
  have ll2 := (by simp [Out.flag] : (S1.flag x4).b.length ≤ S1.b.length + 1)
  generalize S1.flag x4 = S2 at *
  have c2_0 := (hB2.cell 0).trans (show _ = some (.int .i64 x1) from rfl)
  have c2_1 := (hB2.cell 1).trans (show _ = some (.int .i64 x2) from rfl)
  have c2_2 := (hB2.cell 2).trans (show _ = some (.int .i64 x3) from rfl)
  have c2_3 := (hB2.cell 3).trans (show _ = some (.bool x4) from rfl)
  have c2_4 := (hB2.cell 4).trans (show _ = some (.int .u64 x5) from rfl)
  have c2_5 := (hB2.cell 5).trans (show _ = some (.int .i64 x6) from rfl)
  go_wp2_with fail
  refine (digest_any _ _ g _ hW2 (by omega) (by omega) (by omega)).mono ?_
  rintro e w3 ⟨rfl, hW3, hC3⟩
  have hB3 := hC3.blk hB2 (by omega) (by decide)
  have hT3 := hT2.trans hC3
  have hlt3 := hB3.lt
  have hgl3 := hW3.lt
  have ll3 := (by simp [Out.dig, be_len] : (S2.dig x5).b.length ≤ S2.b.length + 8)
  generalize S2.dig x5 = S3 at *
  have c3_0 := (hB3.cell 0).trans (show _ = some (.int .i64 x1) from rfl)
  have c3_1 := (hB3.cell 1).trans (show _ = some (.int .i64 x2) from rfl)
  have c3_2 := (hB3.cell 2).trans (show _ = some (.int .i64 x3) from rfl)
  have c3_3 := (hB3.cell 3).trans (show _ = some (.bool x4) from rfl)
  have c3_4 := (hB3.cell 4).trans (show _ = some (.int .u64 x5) from rfl)
  have c3_5 := (hB3.cell 5).trans (show _ = some (.int .i64 x6) from rfl)
  go_wp2_with fail
  refine (number_any _ _ g _ hW3 (by omega)).mono ?_
  rintro e w4 ⟨rfl, hW4, hC4⟩
  have hB4 := hC4.blk hB3 (by omega) (by decide)
  have hT4 := hT3.trans hC4
  have hlt4 := hB4.lt
  have hgl4 := hW4.lt
  have ll4 := S3.num_len x6
  generalize S3.num x6 = S4 at *
  have c4_0 := (hB4.cell 0).trans (show _ = some (.int .i64 x1) from rfl)
  have c4_1 := (hB4.cell 1).trans (show _ = some (.int .i64 x2) from rfl)
  have c4_2 := (hB4.cell 2).trans (show _ = some (.int .i64 x3) from rfl)
  have c4_3 := (hB4.cell 3).trans (show _ = some (.bool x4) from rfl)
  have c4_4 := (hB4.cell 4).trans (show _ = some (.int .u64 x5) from rfl)
  have c4_5 := (hB4.cell 5).trans (show _ = some (.int .i64 x6) from rfl)
  go_wp2_with fail
  all_goals
    refine (need_any _ _ g _ hW4).mono ?_
    rintro e w5 ⟨rfl, hW5, hC5⟩
    have hB5 := hC5.blk hB4 (by omega) (by decide)
    have hT5 := hT4.trans hC5
    have hlt5 := hB5.lt
    have hgl5 := hW5.lt
    go_wp2_with fail
    go_end0
    exact ⟨rfl, Wrt.eq hW5 (by rw [hE.out, hK.out] <;> (first | rfl | (congr 1; grind))), hT5⟩
set_option maxRecDepth 100000 in
set_option maxHeartbeats 400000 in
theorem wturn_any (x : TurnD) (hx : x.ok) (w : World) (g : Nat) (S : Out) (h : Wrt w g S) (hl : S.b.length + 200 ≤ 70368744177000) :
    Calls Try.prog 178 #[.pointer (some ⟨g, 0, none⟩), x.val] w fun e w' => e = .returned (.tuple #[]) ∧ Wrt w' g (S.turn x) ∧ Turned w w' g := by
  have hgt := h.lt
  have hE : Hid (S.turn x = ((S.num x.p).dig x.d).lim x.p 287) := rfl
  obtain ⟨x1, x2⟩ := x
  obtain ⟨hx0, hx1⟩ := hx
  dsimp only at hx0 hx1
  dsimp only [TurnD.val]
  go_enter Try.func178, Try.ntmps178
  go_wp2_with fail
  refine (number_any _ _ g _ (h.alloc _) (by omega)).mono ?_
  rintro e w1 ⟨rfl, hW1, hC1⟩
  have hB1 := hC1.blk (Blk.new _ _ _) (by omega) (by decide)
  have hT1 := ((Turned.refl w g).alloc (by omega) _).trans hC1
  have hlt1 := hB1.lt
  have hgl1 := hW1.lt
  have ll1 := S.num_len x1
  generalize S.num x1 = S1 at *
  have c1_0 := (hB1.cell 0).trans (show _ = some (.int .i64 x1) from rfl)
  have c1_1 := (hB1.cell 1).trans (show _ = some (.int .u64 x2) from rfl)
  go_wp2_with fail
  refine (digest_any _ _ g _ hW1 (by omega) (by omega) (by omega)).mono ?_
  rintro e w2 ⟨rfl, hW2, hC2⟩
  have hB2 := hC2.blk hB1 (by omega) (by decide)
  have hT2 := hT1.trans hC2
  have hlt2 := hB2.lt
  have hgl2 := hW2.lt
  have ll2 := (by simp [Out.dig, be_len] : (S1.dig x2).b.length ≤ S1.b.length + 8)
  generalize S1.dig x2 = S2 at *
  have c2_0 := (hB2.cell 0).trans (show _ = some (.int .i64 x1) from rfl)
  have c2_1 := (hB2.cell 1).trans (show _ = some (.int .u64 x2) from rfl)
  go_wp2_with fail
  refine (limited_any _ _ _ g _ hW2).mono ?_
  rintro e w3 ⟨rfl, hW3, hC3⟩
  have hB3 := hC3.blk hB2 (by omega) (by decide)
  have hT3 := hT2.trans hC3
  have hlt3 := hB3.lt
  have hgl3 := hW3.lt
  generalize S2.lim x1 287 = S3 at *
  go_wp2_with fail
  go_end0
  exact ⟨rfl, Wrt.eq hW3 (by rw [hE.out] <;> (first | rfl | (congr 1; grind))), hT3⟩
end Go.Proofs.Ytjjkdmngmopjbaa
