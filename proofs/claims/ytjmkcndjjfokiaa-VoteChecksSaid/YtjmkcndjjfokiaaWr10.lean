/- What write and the Puts of package wire answer: numbers, votes, .. -/
import Derived.Test.YtjmkcndjjfokiaaProg
import Derived.Test.YtjmkcndjjfokiaaWr9
import Derived.Test.YtjmkcndjjfokiaaWr11
namespace Go.Proofs.Ytjmkcndjjfokiaa
open Go.RowKit
set_option maxRecDepth 100000 in
set_option maxHeartbeats 400000 in
theorem write_guilt (x : GuiltD) (hx : x.ok) (w : World) :
    Calls Try.prog 155 #[x.val, .func (.func 156) #[] #[]] w fun e w' => e = .returned (.tuple #[.string (bs (Out.empty.guilt x).rs), .int .i64 (Out.empty.guilt x).re]) ∧ Below w.heap.size w w' := by
  obtain ⟨⟨a1, a2, a3, a4, a5, a6⟩, ⟨b1, b2, b3, b4, b5, b6⟩⟩ := x
  dsimp only [GuiltD.val]
  go_enter Try.func155, Try.ntmps155
  go_wp2_with fail
  refine (wguilt_any ⟨⟨a1, a2, a3, a4, a5, a6⟩, ⟨b1, b2, b3, b4, b5, b6⟩⟩ hx _ (w.heap.size + 1) _ (by have hN := Wrt.new (w.alloc (.cells #[.int .i64 a1, .int .i64 a2, .int .i64 a3, .bool a4, .int .u64 a5, .int .i64 a6, .int .i64 b1, .int .i64 b2, .int .i64 b3, .bool b4, .int .u64 b5, .int .i64 b6] 58)); simpa using hN) (by simp [Out.empty])).mono ?_
  rintro e w1 ⟨rfl, ⟨v, hb, ho⟩, hT1⟩
  have hgl := hb.lt
  have hS := hT1.size
  have hBel : Below w.heap.size w w1 := (((Below.refl _ _).alloc (Nat.le_refl _) _).alloc (by simp) _ |>.trans (hT1.low.mono (by omega)))
  generalize hSE : Out.empty.guilt ⟨⟨a1, a2, a3, a4, a5, a6⟩, ⟨b1, b2, b3, b4, b5, b6⟩⟩ = S1 at *
  have HSE := Lib.hid hSE
  clear hSE
  have c0 := (hb.cell 0).trans (show _ = some v from rfl)
  have c1 := (hb.cell 1).trans (show _ = some (Value.bool S1.far) from rfl)
  have c2 := (hb.cell 2).trans (show _ = some (Value.bool S1.odd) from rfl)
  have hcv := conv_own w1 ho
  clear hb ho
  obtain ⟨b, far, odd⟩ := S1
  dsimp only at *
  cases far
  · cases odd
    · go_wp2_with fail
      go_ret2
      exact ⟨by rw [HSE.out]; rfl, hBel⟩
    · go_wp2_with fail
      go_ret2
      exact ⟨by rw [HSE.out]; rfl, hBel⟩
  · go_wp2_with fail
    go_ret2
    exact ⟨by rw [HSE.out]; rfl, hBel⟩
set_option maxRecDepth 100000 in
theorem put_guilt (x : GuiltD) (hx : x.ok) (w : World) :
    Calls Try.prog 94 #[x.val] w fun e w' => e = .returned (.tuple #[.string (bs (Out.empty.guilt x).rs), .int .i64 (Out.empty.guilt x).re]) ∧ Below w.heap.size w w' := by
  have hWr := write_guilt x hx
  generalize Out.empty.guilt x = S1 at *
  obtain ⟨⟨a1, a2, a3, a4, a5, a6⟩, ⟨b1, b2, b3, b4, b5, b6⟩⟩ := x
  dsimp only [GuiltD.val] at *
  go_enter Try.func94, Try.ntmps94
  go_wp2_with fail
  refine (hWr (w.alloc (.cells #[.int .i64 a1, .int .i64 a2, .int .i64 a3, .bool a4, .int .u64 a5, .int .i64 a6, .int .i64 b1, .int .i64 b2, .int .i64 b3, .bool b4, .int .u64 b5, .int .i64 b6] 58))).mono ?_
  rintro e w1 ⟨rfl, hb⟩
  go_wp2_with fail
  go_ret2
  exact ⟨rfl, ((Below.refl _ _).alloc (Nat.le_refl _) _).trans (hb.mono (by simp))⟩
set_option maxRecDepth 100000 in
set_option maxHeartbeats 400000 in
theorem rput_guilt (x : GuiltD) (hx : x.ok) (w : World) :
    Calls Try.prog 96 #[x.val] w fun e w' => e = .returned (.tuple #[.string (bs (Out.empty.guilt x).rs), .int .i64 (Out.empty.guilt x).re]) ∧ Below w.heap.size w w' := by
  obtain ⟨⟨a1, a2, a3, a4, a5, a6⟩, ⟨b1, b2, b3, b4, b5, b6⟩⟩ := x
  dsimp only [GuiltD.val]
  go_enter Try.func96, Try.ntmps96
  go_wp2_with fail
  refine (rvote_any ⟨a1, a2, a3, a4, a5, a6⟩ hx.1 _ (w.heap.size + 1) _ (by have hN := Ref.new (w.alloc (.cells #[.int .i64 a1, .int .i64 a2, .int .i64 a3, .bool a4, .int .u64 a5, .int .i64 a6, .int .i64 b1, .int .i64 b2, .int .i64 b3, .bool b4, .int .u64 b5, .int .i64 b6] 58)); simpa using hN) (by simp [Out.empty])).mono ?_
  rintro e w1 ⟨rfl, hW1, hT1⟩
  have hgl1 := hW1.lt
  have hB1 := hT1.blk (show Blk _ w.heap.size 58 #[.int .i64 a1, .int .i64 a2, .int .i64 a3, .bool a4, .int .u64 a5, .int .i64 a6, .int .i64 b1, .int .i64 b2, .int .i64 b3, .bool b4, .int .u64 b5, .int .i64 b6] from (Blk.new _ _ _).alloc _) (by omega) (by decide)
  have c1_0 := (hB1.cell 0).trans (show _ = some (.int .i64 a1) from rfl)
  have c1_1 := (hB1.cell 1).trans (show _ = some (.int .i64 a2) from rfl)
  have c1_2 := (hB1.cell 2).trans (show _ = some (.int .i64 a3) from rfl)
  have c1_3 := (hB1.cell 3).trans (show _ = some (.bool a4) from rfl)
  have c1_4 := (hB1.cell 4).trans (show _ = some (.int .u64 a5) from rfl)
  have c1_5 := (hB1.cell 5).trans (show _ = some (.int .i64 a6) from rfl)
  have c1_6 := (hB1.cell 6).trans (show _ = some (.int .i64 b1) from rfl)
  have c1_7 := (hB1.cell 7).trans (show _ = some (.int .i64 b2) from rfl)
  have c1_8 := (hB1.cell 8).trans (show _ = some (.int .i64 b3) from rfl)
  have c1_9 := (hB1.cell 9).trans (show _ = some (.bool b4) from rfl)
  have c1_10 := (hB1.cell 10).trans (show _ = some (.int .u64 b5) from rfl)
  have c1_11 := (hB1.cell 11).trans (show _ = some (.int .i64 b6) from rfl)
  go_wp2_with fail
  refine (rvote_any ⟨b1, b2, b3, b4, b5, b6⟩ hx.2 _ (w.heap.size + 1) _ hW1 (by have := Out.empty.vote_len ⟨a1, a2, a3, a4, a5, a6⟩; simp [Out.empty] at *; omega)).mono ?_
  rintro e w2 ⟨rfl, hW2, hT2⟩
  have hT2 := hT1.trans hT2
  have hgl2 := hW2.lt
  have hS := hT2.size
  have hBel : Below w.heap.size w w2 := (((Below.refl _ _).alloc (Nat.le_refl _) _).alloc (by simp) _ |>.trans (hT2.low.mono (by omega)))
  go_wp2_with fail
  refine (rout_any _ _ _ hW2).mono ?_
  rintro e w9 ⟨rfl, rfl⟩
  go_wp2_with fail
  go_ret2
  exact ⟨rfl, hBel⟩
end Go.Proofs.Ytjmkcndjjfokiaa
