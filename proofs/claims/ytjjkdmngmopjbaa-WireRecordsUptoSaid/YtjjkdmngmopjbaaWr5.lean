/- The reference's writer: votes, parcels, accounts. -/
import Derived.Test.YtjjkdmngmopjbaaProg
import Derived.Test.YtjjkdmngmopjbaaWr4
namespace Go.Proofs.Ytjjkdmngmopjbaa
open Go.RowKit
set_option maxRecDepth 100000 in
set_option maxHeartbeats 1000000 in
theorem rvote_any (x : VoteD) (hx : x.ok) (w : World) (g : Nat) (S : Out) (h : Ref w g S) (hl : S.b.length + 200 ≤ 70368744177000) :
    Calls Try.prog 100 #[.pointer (some ⟨g, 0, none⟩), x.val] w fun e w' => e = .returned (.tuple #[]) ∧ Ref w' g (S.vote x) ∧ Turned w w' g := by
  have hgt := h.lt
  have hE : Hid (S.vote x = ((((((S.num x.h).num x.r).num x.s).flag x.has).dig x.b).num x.f).need (voteOk x)) := rfl
  have hK : Hid (voteOk x = (decide (x.s ≤ 2) && decide (1 ≤ x.f) && (x.has || (decide (x.b = 0) && !decide (x.s = 0))))) := rfl
  obtain ⟨x1, x2, x3, x4, x5, x6⟩ := x
  obtain ⟨hx0, hx1⟩ := hx
  dsimp only at hx0 hx1
  dsimp only [VoteD.val]
  go_enter Try.func100, Try.ntmps100
  go_wp2_with fail
  refine (rnumber_any _ _ g _ (h.alloc _) (by omega)).mono ?_
  rintro e w1 ⟨rfl, hW1, hC1⟩
  have hB1 := hC1.blk (Blk.new _ _ _) (by omega) (by decide)
  have hT1 := ((Turned.refl w g).alloc (by omega) _).trans hC1
  have hlt1 := hB1.lt
  have hgl1 := hW1.lt
  have ll1 := S.num_len x1
  generalize S.num x1 = S1 at *
  have c1_0 := (hB1.cell 0).trans (show _ = some (.int .i64 x1) from rfl)
  have c1_1 := (hB1.cell 1).trans (show _ = some (.int .i64 x2) from rfl)
  have c1_2 := (hB1.cell 2).trans (show _ = some (.int .i64 x3) from rfl)
  have c1_3 := (hB1.cell 3).trans (show _ = some (.bool x4) from rfl)
  have c1_4 := (hB1.cell 4).trans (show _ = some (.int .u64 x5) from rfl)
  have c1_5 := (hB1.cell 5).trans (show _ = some (.int .i64 x6) from rfl)
  go_wp2_with fail
  refine (rnumber_any _ _ g _ hW1 (by omega)).mono ?_
  rintro e w2 ⟨rfl, hW2, hC2⟩
  have hB2 := hC2.blk hB1 (by omega) (by decide)
  have hT2 := hT1.trans hC2
  have hlt2 := hB2.lt
  have hgl2 := hW2.lt
  have ll2 := S1.num_len x2
  generalize S1.num x2 = S2 at *
  have c2_0 := (hB2.cell 0).trans (show _ = some (.int .i64 x1) from rfl)
  have c2_1 := (hB2.cell 1).trans (show _ = some (.int .i64 x2) from rfl)
  have c2_2 := (hB2.cell 2).trans (show _ = some (.int .i64 x3) from rfl)
  have c2_3 := (hB2.cell 3).trans (show _ = some (.bool x4) from rfl)
  have c2_4 := (hB2.cell 4).trans (show _ = some (.int .u64 x5) from rfl)
  have c2_5 := (hB2.cell 5).trans (show _ = some (.int .i64 x6) from rfl)
  go_wp2_with fail
  refine (rnumber_any _ _ g _ hW2 (by omega)).mono ?_
  rintro e w3 ⟨rfl, hW3, hC3⟩
  have hB3 := hC3.blk hB2 (by omega) (by decide)
  have hT3 := hT2.trans hC3
  have hlt3 := hB3.lt
  have hgl3 := hW3.lt
  have ll3 := S2.num_len x3
  generalize S2.num x3 = S3 at *
  have c3_0 := (hB3.cell 0).trans (show _ = some (.int .i64 x1) from rfl)
  have c3_1 := (hB3.cell 1).trans (show _ = some (.int .i64 x2) from rfl)
  have c3_2 := (hB3.cell 2).trans (show _ = some (.int .i64 x3) from rfl)
  have c3_3 := (hB3.cell 3).trans (show _ = some (.bool x4) from rfl)
  have c3_4 := (hB3.cell 4).trans (show _ = some (.int .u64 x5) from rfl)
  have c3_5 := (hB3.cell 5).trans (show _ = some (.int .i64 x6) from rfl)
  go_wp2_with fail
  refine (rflag_any _ _ g _ hW3 (by omega)).mono ?_
  rintro e w4 ⟨rfl, hW4, hC4⟩
  have hB4 := hC4.blk hB3 (by omega) (by decide)
  have hT4 := hT3.trans hC4
  have hlt4 := hB4.lt
  have hgl4 := hW4.lt
  have ll4 := (by simp [Out.flag] : (S3.flag x4).b.length ≤ S3.b.length + 1)
  generalize S3.flag x4 = S4 at *
  have c4_0 := (hB4.cell 0).trans (show _ = some (.int .i64 x1) from rfl)
  have c4_1 := (hB4.cell 1).trans (show _ = some (.int .i64 x2) from rfl)
  have c4_2 := (hB4.cell 2).trans (show _ = some (.int .i64 x3) from rfl)
  have c4_3 := (hB4.cell 3).trans (show _ = some (.bool x4) from rfl)
  have c4_4 := (hB4.cell 4).trans (show _ = some (.int .u64 x5) from rfl)
  have c4_5 := (hB4.cell 5).trans (show _ = some (.int .i64 x6) from rfl)
  go_wp2_with fail
  refine (rdigest_any _ _ g _ hW4 (by omega) (by omega) (by omega)).mono ?_
  rintro e w5 ⟨rfl, hW5, hC5⟩
  have hB5 := hC5.blk hB4 (by omega) (by decide)
  have hT5 := hT4.trans hC5
  have hlt5 := hB5.lt
  have hgl5 := hW5.lt
  have ll5 := (by simp [Out.dig, be_len] : (S4.dig x5).b.length ≤ S4.b.length + 8)
  generalize S4.dig x5 = S5 at *
  have c5_0 := (hB5.cell 0).trans (show _ = some (.int .i64 x1) from rfl)
  have c5_1 := (hB5.cell 1).trans (show _ = some (.int .i64 x2) from rfl)
  have c5_2 := (hB5.cell 2).trans (show _ = some (.int .i64 x3) from rfl)
  have c5_3 := (hB5.cell 3).trans (show _ = some (.bool x4) from rfl)
  have c5_4 := (hB5.cell 4).trans (show _ = some (.int .u64 x5) from rfl)
  have c5_5 := (hB5.cell 5).trans (show _ = some (.int .i64 x6) from rfl)
  go_wp2_with fail
  refine (rnumber_any _ _ g _ hW5 (by omega)).mono ?_
  rintro e w6 ⟨rfl, hW6, hC6⟩
  have hB6 := hC6.blk hB5 (by omega) (by decide)
  have hT6 := hT5.trans hC6
  have hlt6 := hB6.lt
  have hgl6 := hW6.lt
  have ll6 := S5.num_len x6
  generalize S5.num x6 = S6 at *
  have c6_0 := (hB6.cell 0).trans (show _ = some (.int .i64 x1) from rfl)
  have c6_1 := (hB6.cell 1).trans (show _ = some (.int .i64 x2) from rfl)
  have c6_2 := (hB6.cell 2).trans (show _ = some (.int .i64 x3) from rfl)
  have c6_3 := (hB6.cell 3).trans (show _ = some (.bool x4) from rfl)
  have c6_4 := (hB6.cell 4).trans (show _ = some (.int .u64 x5) from rfl)
  have c6_5 := (hB6.cell 5).trans (show _ = some (.int .i64 x6) from rfl)
  go_wp2_with fail
  all_goals
    refine (rneed_any _ _ g _ hW6).mono ?_
    rintro e w7 ⟨rfl, hW7, hC7⟩
    have hB7 := hC7.blk hB6 (by omega) (by decide)
    have hT7 := hT6.trans hC7
    have hlt7 := hB7.lt
    have hgl7 := hW7.lt
    have c7_0 := (hB7.cell 0).trans (show _ = some (.int .i64 x1) from rfl)
    have c7_1 := (hB7.cell 1).trans (show _ = some (.int .i64 x2) from rfl)
    have c7_2 := (hB7.cell 2).trans (show _ = some (.int .i64 x3) from rfl)
    have c7_3 := (hB7.cell 3).trans (show _ = some (.bool x4) from rfl)
    have c7_4 := (hB7.cell 4).trans (show _ = some (.int .u64 x5) from rfl)
    have c7_5 := (hB7.cell 5).trans (show _ = some (.int .i64 x6) from rfl)
    go_wp2_with fail
    all_goals
      refine (rneed_any _ _ g _ hW7).mono ?_
      rintro e w8 ⟨rfl, hW8, hC8⟩
      have hB8 := hC8.blk hB7 (by omega) (by decide)
      have hT8 := hT7.trans hC8
      have hlt8 := hB8.lt
      have hgl8 := hW8.lt
      go_wp2_with fail
      go_end0
      exact ⟨rfl, Ref.eq hW8 (by rw [hE.out, hK.out] <;> (first | rfl | ((try rw [Out.need_need]); congr 1; grind))), hT8⟩
end Go.Proofs.Ytjjkdmngmopjbaa
