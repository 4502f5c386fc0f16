/- Results and views, two votes, headers: the program's writer. -/
import Derived.Test.YtjjkdmngmopjbaaProg
import Derived.Test.YtjjkdmngmopjbaaWr7
import Derived.Test.YtjjkdmngmopjbaaWrT
namespace Go.Proofs.Ytjjkdmngmopjbaa
open Go.RowKit
set_option maxRecDepth 100000 in
set_option maxHeartbeats 400000 in
theorem wview_any (x : ViewD) (hx : x.ok) (w : World) (g : Nat) (S : Out) (h : Wrt w g S) (hl : S.b.length + 3000 + 12 * x.seats.length ≤ 70368744177000) (B : Nat) (hr : SeatsL w B x.sa x.seats) (hB : B ≤ g) (hm : x.seats.length ≤ maxLen) :
    Calls Try.prog 149 #[.pointer (some ⟨g, 0, none⟩), x.val] w fun e w' => e = .returned (.tuple #[]) ∧ Wrt w' g (S.view x) ∧ Turned w w' g := by
  have hgt := h.lt
  have hE : Hid (S.view x = (((S.nums [x.c, x.w, x.e, x.h]).dig x.s).bench x.seats).need (viewOk x)) := rfl
  have hK : Hid (viewOk x = ((decide (1 ≤ x.w) && decide (x.w ≤ 8)) && decide (1 ≤ x.e))) := rfl
  obtain ⟨x1, x2, x3, x4, x5, x6, x6a, x6c⟩ := x
  obtain ⟨hx0, hx1⟩ := hx
  dsimp only at hx0 hx1
  dsimp only [ViewD.val]
  dsimp only at hr hm hl
  go_enter Try.func149, Try.ntmps149
  go_wp2_with fail
  have ll1 := S.nums_len [x1, x2, x3, x4]
  simp only [List.length_cons, List.length_nil] at ll1
  refine (numbers_any [x1, x2, x3, x4] 4 _ g (w.heap.size + 1) S ((h.alloc _).alloc _) (by have hN := Blk.new (w.alloc (.cells #[.int .i64 x1, .int .i64 x2, .int .i64 x3, .int .i64 x4, .int .u64 x5, .slice x6a x6.length x6c] 82)) 3 #[.int .i64 x1, .int .i64 x2, .int .i64 x3, .int .i64 x4]; simpa using hN) (by omega) (by simp; omega)).mono ?_
  rintro e w1 ⟨rfl, hW1, hC1⟩
  have hB1 := hC1.blk ((Blk.new _ _ _).alloc _) (by omega) (by decide)
  have hT1 := (((Turned.refl w g).alloc (by omega) _).alloc (by simp; omega) _).trans hC1
  have hlt1 := hB1.lt
  have hgl1 := hW1.lt
  generalize S.nums [x1, x2, x3, x4] = S1 at *
  have c1_0 := (hB1.cell 0).trans (show _ = some (.int .i64 x1) from rfl)
  have c1_1 := (hB1.cell 1).trans (show _ = some (.int .i64 x2) from rfl)
  have c1_2 := (hB1.cell 2).trans (show _ = some (.int .i64 x3) from rfl)
  have c1_3 := (hB1.cell 3).trans (show _ = some (.int .i64 x4) from rfl)
  have c1_4 := (hB1.cell 4).trans (show _ = some (.int .u64 x5) from rfl)
  have c1_5 := (hB1.cell 5).trans (show _ = some (.slice x6a x6.length x6c) from rfl)
  go_wp2_with fail
  refine (digest_any _ _ g _ hW1 (by omega) (by omega) (by omega)).mono ?_
  rintro e w2 ⟨rfl, hW2, hC2⟩
  have hB2 := hC2.blk hB1 (by omega) (by decide)
  have hT2 := hT1.trans hC2
  have hlt2 := hB2.lt
  have hgl2 := hW2.lt
  have ll2 := (by simp [Out.dig, be_len] : (S1.dig x5).b.length ≤ S1.b.length + 8)
  generalize S1.dig x5 = S2 at *
  have c2_0 := (hB2.cell 0).trans (show _ = some (.int .i64 x1) from rfl)
  have c2_1 := (hB2.cell 1).trans (show _ = some (.int .i64 x2) from rfl)
  have c2_2 := (hB2.cell 2).trans (show _ = some (.int .i64 x3) from rfl)
  have c2_3 := (hB2.cell 3).trans (show _ = some (.int .i64 x4) from rfl)
  have c2_4 := (hB2.cell 4).trans (show _ = some (.int .u64 x5) from rfl)
  have c2_5 := (hB2.cell 5).trans (show _ = some (.slice x6a x6.length x6c) from rfl)
  go_wp2_with fail
  refine (wbench_any x6 x6a x6c B _ g _ hW2 (hT2.rd hr hB) hB (by omega) hm).mono ?_
  rintro e w3 ⟨rfl, hW3, hC3⟩
  have hB3 := hC3.blk hB2 (by omega) (by decide)
  have hT3 := hT2.trans hC3
  have hlt3 := hB3.lt
  have hgl3 := hW3.lt
  generalize S2.bench x6 = S3 at *
  have c3_0 := (hB3.cell 0).trans (show _ = some (.int .i64 x1) from rfl)
  have c3_1 := (hB3.cell 1).trans (show _ = some (.int .i64 x2) from rfl)
  have c3_2 := (hB3.cell 2).trans (show _ = some (.int .i64 x3) from rfl)
  have c3_3 := (hB3.cell 3).trans (show _ = some (.int .i64 x4) from rfl)
  have c3_4 := (hB3.cell 4).trans (show _ = some (.int .u64 x5) from rfl)
  have c3_5 := (hB3.cell 5).trans (show _ = some (.slice x6a x6.length x6c) from rfl)
  go_wp2_with fail
  all_goals
    refine (need_any _ _ g _ hW3).mono ?_
    rintro e w4 ⟨rfl, hW4, hC4⟩
    have hB4 := hC4.blk hB3 (by omega) (by decide)
    have hT4 := hT3.trans hC4
    have hlt4 := hB4.lt
    have hgl4 := hW4.lt
    go_wp2_with fail
    go_end0
    exact ⟨rfl, Wrt.eq hW4 (by rw [hE.out, hK.out] <;> (first | rfl | ((try rw [Out.need_need]); congr 1; grind))), hT4⟩
set_option maxRecDepth 100000 in
set_option maxHeartbeats 400000 in
theorem rview_any (x : ViewD) (hx : x.ok) (w : World) (g : Nat) (S : Out) (h : Ref w g S) (hl : S.b.length + 3000 + 12 * x.seats.length ≤ 70368744177000) (B : Nat) (hr : SeatsL w B x.sa x.seats) (hB : B ≤ g) (hm : x.seats.length ≤ maxLen) :
    Calls Try.prog 127 #[.pointer (some ⟨g, 0, none⟩), x.val] w fun e w' => e = .returned (.tuple #[]) ∧ Ref w' g (S.view x) ∧ Turned w w' g := by
  have hgt := h.lt
  have hE : Hid (S.view x = ((((((S.num x.c).num x.w).num x.e).num x.h).dig x.s).bench x.seats).need (viewOk x)) := rfl
  have hK : Hid (viewOk x = ((decide (1 ≤ x.w) && decide (x.w ≤ 8)) && decide (1 ≤ x.e))) := rfl
  obtain ⟨x1, x2, x3, x4, x5, x6, x6a, x6c⟩ := x
  obtain ⟨hx0, hx1⟩ := hx
  dsimp only at hx0 hx1
  dsimp only [ViewD.val]
  dsimp only at hr hm hl
  go_enter Try.func127, Try.ntmps127
  go_wp2_with fail
  refine (rnumber_any _ _ g _ (h.alloc _) (by omega)).mono ?_
  rintro e w1 ⟨rfl, hW1, hC1⟩
  have hB1 := hC1.blk (Blk.new _ _ _) (by omega) (by decide)
  have hT1 := ((Turned.refl w g).alloc (by omega) _).trans hC1
  have hlt1 := hB1.lt
  have hgl1 := hW1.lt
  have ll1 := S.num_len x1
  generalize S.num x1 = S1 at *
  have c1_0 := (hB1.cell 0).trans (show _ = some (.int .i64 x1) from rfl)
  have c1_1 := (hB1.cell 1).trans (show _ = some (.int .i64 x2) from rfl)
  have c1_2 := (hB1.cell 2).trans (show _ = some (.int .i64 x3) from rfl)
  have c1_3 := (hB1.cell 3).trans (show _ = some (.int .i64 x4) from rfl)
  have c1_4 := (hB1.cell 4).trans (show _ = some (.int .u64 x5) from rfl)
  have c1_5 := (hB1.cell 5).trans (show _ = some (.slice x6a x6.length x6c) from rfl)
  go_wp2_with fail
  refine (rnumber_any _ _ g _ hW1 (by omega)).mono ?_
  rintro e w2 ⟨rfl, hW2, hC2⟩
  have hB2 := hC2.blk hB1 (by omega) (by decide)
  have hT2 := hT1.trans hC2
  have hlt2 := hB2.lt
  have hgl2 := hW2.lt
  have ll2 := S1.num_len x2
  generalize S1.num x2 = S2 at *
  have c2_0 := (hB2.cell 0).trans (show _ = some (.int .i64 x1) from rfl)
  have c2_1 := (hB2.cell 1).trans (show _ = some (.int .i64 x2) from rfl)
  have c2_2 := (hB2.cell 2).trans (show _ = some (.int .i64 x3) from rfl)
  have c2_3 := (hB2.cell 3).trans (show _ = some (.int .i64 x4) from rfl)
  have c2_4 := (hB2.cell 4).trans (show _ = some (.int .u64 x5) from rfl)
  have c2_5 := (hB2.cell 5).trans (show _ = some (.slice x6a x6.length x6c) from rfl)
  go_wp2_with fail
  refine (rnumber_any _ _ g _ hW2 (by omega)).mono ?_
  rintro e w3 ⟨rfl, hW3, hC3⟩
  have hB3 := hC3.blk hB2 (by omega) (by decide)
  have hT3 := hT2.trans hC3
  have hlt3 := hB3.lt
  have hgl3 := hW3.lt
  have ll3 := S2.num_len x3
  generalize S2.num x3 = S3 at *
  have c3_0 := (hB3.cell 0).trans (show _ = some (.int .i64 x1) from rfl)
  have c3_1 := (hB3.cell 1).trans (show _ = some (.int .i64 x2) from rfl)
  have c3_2 := (hB3.cell 2).trans (show _ = some (.int .i64 x3) from rfl)
  have c3_3 := (hB3.cell 3).trans (show _ = some (.int .i64 x4) from rfl)
  have c3_4 := (hB3.cell 4).trans (show _ = some (.int .u64 x5) from rfl)
  have c3_5 := (hB3.cell 5).trans (show _ = some (.slice x6a x6.length x6c) from rfl)
  go_wp2_with fail
  refine (rnumber_any _ _ g _ hW3 (by omega)).mono ?_
  rintro e w4 ⟨rfl, hW4, hC4⟩
  have hB4 := hC4.blk hB3 (by omega) (by decide)
  have hT4 := hT3.trans hC4
  have hlt4 := hB4.lt
  have hgl4 := hW4.lt
  have ll4 := S3.num_len x4
  generalize S3.num x4 = S4 at *
  have c4_0 := (hB4.cell 0).trans (show _ = some (.int .i64 x1) from rfl)
  have c4_1 := (hB4.cell 1).trans (show _ = some (.int .i64 x2) from rfl)
  have c4_2 := (hB4.cell 2).trans (show _ = some (.int .i64 x3) from rfl)
  have c4_3 := (hB4.cell 3).trans (show _ = some (.int .i64 x4) from rfl)
  have c4_4 := (hB4.cell 4).trans (show _ = some (.int .u64 x5) from rfl)
  have c4_5 := (hB4.cell 5).trans (show _ = some (.slice x6a x6.length x6c) from rfl)
  go_wp2_with fail
  refine (rdigest_any _ _ g _ hW4 (by omega) (by omega) (by omega)).mono ?_
  rintro e w5 ⟨rfl, hW5, hC5⟩
  have hB5 := hC5.blk hB4 (by omega) (by decide)
  have hT5 := hT4.trans hC5
  have hlt5 := hB5.lt
  have hgl5 := hW5.lt
  have ll5 := (by simp [Out.dig, be_len] : (S4.dig x5).b.length ≤ S4.b.length + 8)
  generalize S4.dig x5 = S5 at *
  have c5_0 := (hB5.cell 0).trans (show _ = some (.int .i64 x1) from rfl)
  have c5_1 := (hB5.cell 1).trans (show _ = some (.int .i64 x2) from rfl)
  have c5_2 := (hB5.cell 2).trans (show _ = some (.int .i64 x3) from rfl)
  have c5_3 := (hB5.cell 3).trans (show _ = some (.int .i64 x4) from rfl)
  have c5_4 := (hB5.cell 4).trans (show _ = some (.int .u64 x5) from rfl)
  have c5_5 := (hB5.cell 5).trans (show _ = some (.slice x6a x6.length x6c) from rfl)
  go_wp2_with fail
  refine (rbench_any x6 x6a x6c B _ g _ hW5 (hT5.rd hr hB) hB (by omega) hm).mono ?_
  rintro e w6 ⟨rfl, hW6, hC6⟩
  have hB6 := hC6.blk hB5 (by omega) (by decide)
  have hT6 := hT5.trans hC6
  have hlt6 := hB6.lt
  have hgl6 := hW6.lt
  generalize S5.bench x6 = S6 at *
  have c6_0 := (hB6.cell 0).trans (show _ = some (.int .i64 x1) from rfl)
  have c6_1 := (hB6.cell 1).trans (show _ = some (.int .i64 x2) from rfl)
  have c6_2 := (hB6.cell 2).trans (show _ = some (.int .i64 x3) from rfl)
  have c6_3 := (hB6.cell 3).trans (show _ = some (.int .i64 x4) from rfl)
  have c6_4 := (hB6.cell 4).trans (show _ = some (.int .u64 x5) from rfl)
  have c6_5 := (hB6.cell 5).trans (show _ = some (.slice x6a x6.length x6c) from rfl)
  go_wp2_with fail
  all_goals
    refine (rneed_any _ _ g _ hW6).mono ?_
    rintro e w7 ⟨rfl, hW7, hC7⟩
    have hB7 := hC7.blk hB6 (by omega) (by decide)
    have hT7 := hT6.trans hC7
    have hlt7 := hB7.lt
    have hgl7 := hW7.lt
    go_wp2_with fail
    go_end0
    exact ⟨rfl, Ref.eq hW7 (by rw [hE.out, hK.out] <;> (first | rfl | ((try rw [Out.need_need]); congr 1; grind))), hT7⟩
set_option maxRecDepth 100000 in
set_option maxHeartbeats 400000 in
theorem wguilt_any (x : GuiltD) (hx : x.ok) (w : World) (g : Nat) (S : Out) (h : Wrt w g S) (hl : S.b.length + 400 ≤ 70368744177000) :
    Calls Try.prog 168 #[.pointer (some ⟨g, 0, none⟩), x.val] w fun e w' => e = .returned (.tuple #[]) ∧ Wrt w' g (S.guilt x) ∧ Turned w w' g := by
  have hgt := h.lt
  have hE : Hid (S.guilt x = (S.vote x.a).vote x.b) := rfl
  obtain ⟨⟨a1, a2, a3, a4, a5, a6⟩, ⟨b1, b2, b3, b4, b5, b6⟩⟩ := x
  obtain ⟨⟨hx0, hx1⟩, ⟨hx2, hx3⟩⟩ := hx
  dsimp only at hx0 hx1 hx2 hx3
  dsimp only [GuiltD.val]
  go_enter Try.func168, Try.ntmps168
  go_wp2_with fail
  refine (wvote_any ⟨a1, a2, a3, a4, a5, a6⟩ ⟨hx0, hx1⟩ _ g _ (h.alloc _) (by omega)).mono ?_
  rintro e w1 ⟨rfl, hW1, hC1⟩
  have hB1 := hC1.blk (Blk.new _ _ _) (by omega) (by decide)
  have hT1 := ((Turned.refl w g).alloc (by omega) _).trans hC1
  have hlt1 := hB1.lt
  have hgl1 := hW1.lt
  have ll1 := S.vote_len ⟨a1, a2, a3, a4, a5, a6⟩
  generalize S.vote ⟨a1, a2, a3, a4, a5, a6⟩ = S1 at *
  have c1_0 := (hB1.cell 0).trans (show _ = some (.int .i64 a1) from rfl)
  have c1_1 := (hB1.cell 1).trans (show _ = some (.int .i64 a2) from rfl)
  have c1_2 := (hB1.cell 2).trans (show _ = some (.int .i64 a3) from rfl)
  have c1_3 := (hB1.cell 3).trans (show _ = some (.bool a4) from rfl)
  have c1_4 := (hB1.cell 4).trans (show _ = some (.int .u64 a5) from rfl)
  have c1_5 := (hB1.cell 5).trans (show _ = some (.int .i64 a6) from rfl)
  have c1_6 := (hB1.cell 6).trans (show _ = some (.int .i64 b1) from rfl)
  have c1_7 := (hB1.cell 7).trans (show _ = some (.int .i64 b2) from rfl)
  have c1_8 := (hB1.cell 8).trans (show _ = some (.int .i64 b3) from rfl)
  have c1_9 := (hB1.cell 9).trans (show _ = some (.bool b4) from rfl)
  have c1_10 := (hB1.cell 10).trans (show _ = some (.int .u64 b5) from rfl)
  have c1_11 := (hB1.cell 11).trans (show _ = some (.int .i64 b6) from rfl)
  go_wp2_with fail
  refine (wvote_any ⟨b1, b2, b3, b4, b5, b6⟩ ⟨hx2, hx3⟩ _ g _ hW1 (by omega)).mono ?_
  rintro e w2 ⟨rfl, hW2, hC2⟩
  have hB2 := hC2.blk hB1 (by omega) (by decide)
  have hT2 := hT1.trans hC2
  have hlt2 := hB2.lt
  have hgl2 := hW2.lt
  generalize S1.vote ⟨b1, b2, b3, b4, b5, b6⟩ = S2 at *
  go_wp2_with fail
  go_end0
  exact ⟨rfl, Wrt.eq hW2 (by rw [hE.out] <;> (first | rfl | ((try rw [Out.need_need]); congr 1; grind))), hT2⟩
end Go.Proofs.Ytjjkdmngmopjbaa
