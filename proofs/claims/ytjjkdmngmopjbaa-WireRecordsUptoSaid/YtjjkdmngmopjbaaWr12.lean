/- What write and the Puts of package wire answer: benches, views, results. -/
import Derived.Test.YtjjkdmngmopjbaaProg
import Derived.Test.YtjjkdmngmopjbaaWr9
import Derived.Test.YtjjkdmngmopjbaaWr11
namespace Go.Proofs.Ytjjkdmngmopjbaa
open Go.RowKit
set_option maxRecDepth 100000 in
set_option maxHeartbeats 400000 in
theorem write_bench (x : (List Seat)) (A : Option Addr) (c B : Nat) (w : World) (hr : SeatsL w B A x) (hB : B ≤ w.heap.size) (hl : x.length ≤ 65536) :
    Calls Try.prog 152 #[.slice A x.length c, .func (.func 153) #[] #[]] w fun e w' => e = .returned (.tuple #[.string (bs (Out.empty.bench x).rs), .int .i64 (Out.empty.bench x).re]) ∧ Below w.heap.size w w' := by
  go_enter Try.func152, Try.ntmps152
  go_wp2_with fail
  refine (wbench_any x A c B _ w.heap.size _ (Wrt.new w) (by first | exact hr.alloc hB _ | exact hr) hB (by simp [Out.empty]; omega) (by simp [maxLen]; omega)).mono ?_
  rintro e w1 ⟨rfl, ⟨v, hb, ho⟩, hT1⟩
  have hgl := hb.lt
  have hS := hT1.size
  have hBel : Below w.heap.size w w1 := (((Below.refl _ _).alloc (Nat.le_refl _) _) |>.trans (hT1.low.mono (by omega)))
  generalize hSE : Out.empty.bench x = S1 at *
  have HSE := Lib.hid hSE
  clear hSE
  have c0 := (hb.cell 0).trans (show _ = some v from rfl)
  have c1 := (hb.cell 1).trans (show _ = some (Value.bool S1.far) from rfl)
  have c2 := (hb.cell 2).trans (show _ = some (Value.bool S1.odd) from rfl)
  have hcv := conv_own w1 ho
  clear hb ho
  obtain ⟨b, far, odd⟩ := S1
  dsimp only at *
  cases far
  · cases odd
    · go_wp2_with fail
      go_ret2
      exact ⟨by rw [HSE.out]; rfl, hBel⟩
    · go_wp2_with fail
      go_ret2
      exact ⟨by rw [HSE.out]; rfl, hBel⟩
  · go_wp2_with fail
    go_ret2
    exact ⟨by rw [HSE.out]; rfl, hBel⟩
set_option maxRecDepth 100000 in
theorem put_bench (x : (List Seat)) (A : Option Addr) (c B : Nat) (w : World) (hr : SeatsL w B A x) (hB : B ≤ w.heap.size) (hl : x.length ≤ 65536) :
    Calls Try.prog 124 #[.slice A x.length c] w fun e w' => e = .returned (.tuple #[.string (bs (Out.empty.bench x).rs), .int .i64 (Out.empty.bench x).re]) ∧ Below w.heap.size w w' := by
  have hWr := write_bench x A c B w hr hB hl
  generalize Out.empty.bench x = S1 at *
  go_enter Try.func124, Try.ntmps124
  go_wp2_with fail
  refine hWr.mono ?_
  rintro e w1 ⟨rfl, hb⟩
  go_wp2_with fail
  go_ret2
  exact ⟨rfl, hb⟩
set_option maxRecDepth 100000 in
set_option maxHeartbeats 400000 in
theorem rput_bench (x : (List Seat)) (A : Option Addr) (c B : Nat) (w : World) (hr : SeatsL w B A x) (hB : B ≤ w.heap.size) (hl : x.length ≤ 65536) :
    Calls Try.prog 83 #[.slice A x.length c] w fun e w' => e = .returned (.tuple #[.string (bs (Out.empty.bench x).rs), .int .i64 (Out.empty.bench x).re]) ∧ Below w.heap.size w w' := by
  go_enter Try.func83, Try.ntmps83
  go_wp2_with fail
  refine (rbench_any x A c B _ w.heap.size _ (Ref.new w) (by first | exact hr.alloc hB _ | exact hr) hB (by simp [Out.empty]; omega) (by simp [maxLen]; omega)).mono ?_
  rintro e w1 ⟨rfl, hW1, hT1⟩
  have hgl1 := hW1.lt
  have hS := hT1.size
  have hBel : Below w.heap.size w w1 := (((Below.refl _ _).alloc (Nat.le_refl _) _) |>.trans (hT1.low.mono (by omega)))
  go_wp2_with fail
  refine (rout_any _ _ _ hW1).mono ?_
  rintro e w9 ⟨rfl, rfl⟩
  go_wp2_with fail
  go_ret2
  exact ⟨rfl, hBel⟩
set_option maxRecDepth 100000 in
set_option maxHeartbeats 400000 in
theorem write_view (x : ViewD) (hx : x.ok) (B : Nat) (w : World) (hr : SeatsL w B x.sa x.seats) (hB : B ≤ w.heap.size) (hl : x.seats.length ≤ 65536) :
    Calls Try.prog 148 #[x.val, .func (.func 149) #[] #[]] w fun e w' => e = .returned (.tuple #[.string (bs (Out.empty.view x).rs), .int .i64 (Out.empty.view x).re]) ∧ Below w.heap.size w w' := by
  obtain ⟨x1, x2, x3, x4, x5, x6, x6a, x6c⟩ := x
  dsimp only at hr hl
  dsimp only [ViewD.val]
  go_enter Try.func148, Try.ntmps148
  go_wp2_with fail
  refine (wview_any ⟨x1, x2, x3, x4, x5, x6, x6a, x6c⟩ hx _ (w.heap.size + 1) _ (by have hN := Wrt.new (w.alloc (.cells #[.int .i64 x1, .int .i64 x2, .int .i64 x3, .int .i64 x4, .int .u64 x5, .slice x6a x6.length x6c] 82)); simpa using hN) (by simp [Out.empty]; omega) B (by first | exact ((hr.alloc hB _).alloc (by simp; omega) _) | exact hr) (by omega) (by simp [maxLen]; omega)).mono ?_
  rintro e w1 ⟨rfl, ⟨v, hb, ho⟩, hT1⟩
  have hgl := hb.lt
  have hS := hT1.size
  have hBel : Below w.heap.size w w1 := (((Below.refl _ _).alloc (Nat.le_refl _) _).alloc (by simp) _ |>.trans (hT1.low.mono (by omega)))
  generalize hSE : Out.empty.view ⟨x1, x2, x3, x4, x5, x6, x6a, x6c⟩ = S1 at *
  have HSE := Lib.hid hSE
  clear hSE
  have c0 := (hb.cell 0).trans (show _ = some v from rfl)
  have c1 := (hb.cell 1).trans (show _ = some (Value.bool S1.far) from rfl)
  have c2 := (hb.cell 2).trans (show _ = some (Value.bool S1.odd) from rfl)
  have hcv := conv_own w1 ho
  clear hb ho
  obtain ⟨b, far, odd⟩ := S1
  dsimp only at *
  cases far
  · cases odd
    · go_wp2_with fail
      go_ret2
      exact ⟨by rw [HSE.out]; rfl, hBel⟩
    · go_wp2_with fail
      go_ret2
      exact ⟨by rw [HSE.out]; rfl, hBel⟩
  · go_wp2_with fail
    go_ret2
    exact ⟨by rw [HSE.out]; rfl, hBel⟩
set_option maxRecDepth 100000 in
theorem put_view (x : ViewD) (hx : x.ok) (B : Nat) (w : World) (hr : SeatsL w B x.sa x.seats) (hB : B ≤ w.heap.size) (hl : x.seats.length ≤ 65536) :
    Calls Try.prog 121 #[x.val] w fun e w' => e = .returned (.tuple #[.string (bs (Out.empty.view x).rs), .int .i64 (Out.empty.view x).re]) ∧ Below w.heap.size w w' := by
  have hWr := write_view x hx B (w.alloc (.cells #[.int .i64 x.c, .int .i64 x.w, .int .i64 x.e, .int .i64 x.h, .int .u64 x.s, .slice x.sa x.seats.length x.sc] 82)) (hr.alloc hB _) (by simp; omega) hl
  generalize Out.empty.view x = S1 at *
  obtain ⟨x1, x2, x3, x4, x5, x6, x6a, x6c⟩ := x
  dsimp only at hr hl
  dsimp only [ViewD.val] at *
  go_enter Try.func121, Try.ntmps121
  go_wp2_with fail
  refine hWr.mono ?_
  rintro e w1 ⟨rfl, hb⟩
  go_wp2_with fail
  go_ret2
  exact ⟨rfl, ((Below.refl _ _).alloc (Nat.le_refl _) _).trans (hb.mono (by simp))⟩
set_option maxRecDepth 100000 in
set_option maxHeartbeats 400000 in
theorem rput_view (x : ViewD) (hx : x.ok) (B : Nat) (w : World) (hr : SeatsL w B x.sa x.seats) (hB : B ≤ w.heap.size) (hl : x.seats.length ≤ 65536) :
    Calls Try.prog 80 #[x.val] w fun e w' => e = .returned (.tuple #[.string (bs (Out.empty.view x).rs), .int .i64 (Out.empty.view x).re]) ∧ Below w.heap.size w w' := by
  obtain ⟨x1, x2, x3, x4, x5, x6, x6a, x6c⟩ := x
  dsimp only at hr hl
  dsimp only [ViewD.val]
  go_enter Try.func80, Try.ntmps80
  go_wp2_with fail
  refine (rview_any ⟨x1, x2, x3, x4, x5, x6, x6a, x6c⟩ hx _ (w.heap.size + 1) _ (by have hN := Ref.new (w.alloc (.cells #[.int .i64 x1, .int .i64 x2, .int .i64 x3, .int .i64 x4, .int .u64 x5, .slice x6a x6.length x6c] 82)); simpa using hN) (by simp [Out.empty]; omega) B (by first | exact ((hr.alloc hB _).alloc (by simp; omega) _) | exact hr) (by omega) (by simp [maxLen]; omega)).mono ?_
  rintro e w1 ⟨rfl, hW1, hT1⟩
  have hgl1 := hW1.lt
  have hS := hT1.size
  have hBel : Below w.heap.size w w1 := (((Below.refl _ _).alloc (Nat.le_refl _) _).alloc (by simp) _ |>.trans (hT1.low.mono (by omega)))
  go_wp2_with fail
  refine (rout_any _ _ _ hW1).mono ?_
  rintro e w9 ⟨rfl, rfl⟩
  go_wp2_with fail
  go_ret2
  exact ⟨rfl, hBel⟩
end Go.Proofs.Ytjjkdmngmopjbaa
