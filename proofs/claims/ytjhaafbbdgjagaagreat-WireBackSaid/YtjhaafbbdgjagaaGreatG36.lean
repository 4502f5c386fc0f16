/- Of the texts PutB. -/
import Derived.Test.YtjhaafbbdgjagaaGreatProg
import Derived.Test.YtjhaafbbdgjagaaGreatG24
import Derived.Test.YtjhaafbbdgjagaaGreatG34
set_option linter.unusedSimpArgs false
set_option linter.unusedVariables false
namespace Go.Proofs.YtjhaafbbdgjagaaGreat
open Go.RowKit
set_option maxRecDepth 100000 in
set_option maxHeartbeats 2000000 in
theorem write_block (x : BlockD) (B : Nat) (w : World) (hx : x.held w B) (hB : B ≤ w.heap.size) (hl : blockM x ≤ 10000000) :
  Calls Tryz.prog 195 #[x.val, .func (.func 193) #[] #[]] w fun e w' => e = .returned (.tuple #[.string (bs (Out.empty.block x).rs), .int .i64 (Out.empty.block x).re]) ∧ Below w.heap.size w w' := by
 obtain ⟨⟨h1, h2, h3, h4, h5, h6, h7, h8, h9⟩, ts, tA, tc, gs, gA, gc⟩ := x; dsimp only [BlockD.val]; go_enter Tryz.func195, Tryz.ntmps195; go_wp2_with fail; refine (wblock_any ⟨⟨h1, h2, h3, h4, h5, h6, h7, h8, h9⟩, ts, tA, tc, gs, gA, gc⟩ B _ (w.heap.size + 1) _ (by have hN := Wrt.new (w.alloc (.cells #[.int .i64 h1, .int .i64 h2, .int .u64 h3, .int .u64 h4, .int .u64 h5, .int .u64 h6, .int .u64 h7, .int .u64 h8, .int .i64 h9, .slice tA ts.length tc, .slice gA gs.length gc] 56)); simpa using hN) (by simp [Out.empty]; omega) (by first | exact hx.below (((Below.refl B w).alloc hB _).alloc (by simp; omega) _) | exact hx) (by omega)).mono ?_; rintro e w1 ⟨rfl, ⟨v, hb, ho⟩, hT1⟩; have hgl := hb.lt; have hS := hT1.size; have hBel : Below w.heap.size w w1 := (((Below.refl _ _).alloc (Nat.le_refl _) _).alloc (by simp) _ |>.trans (hT1.low.mono (by omega)))
 generalize hSE : Out.empty.block ⟨⟨h1, h2, h3, h4, h5, h6, h7, h8, h9⟩, ts, tA, tc, gs, gA, gc⟩ = S1 at *; have HSE := Lib.hid hSE; clear hSE; have c0 := hb.c 0 rfl; have c1 := hb.c 1 rfl; have c2 := hb.c 2 rfl; have hcv := conv_own w1 ho; clear hb ho; obtain ⟨b, far, odd⟩ := S1; dsimp only at *; cases far
 ·cases odd
  ·go_wp2_with fail
   go_ret2
   exact ⟨by rw [HSE.out]; rfl, hBel⟩
  ·go_wp2_with fail
   go_ret2
   exact ⟨by rw [HSE.out]; rfl, hBel⟩
 ·go_wp2_with fail
  go_ret2
  exact ⟨by rw [HSE.out]; rfl, hBel⟩
set_option maxRecDepth 100000 in
theorem put_block (x : BlockD) (B : Nat) (w : World) (hx : x.held w B) (hB : B ≤ w.heap.size) (hl : blockM x ≤ 10000000) :
  Calls Tryz.prog 114 #[x.val] w fun e w' => e = .returned (.tuple #[.string (bs (Out.empty.block x).rs), .int .i64 (Out.empty.block x).re]) ∧ Below w.heap.size w w' := by
 have hWr := write_block x B (w.alloc (.cells #[.int .i64 x.header.c, .int .i64 x.header.h, .int .u64 x.header.p, .int .u64 x.header.t, .int .u64 x.header.g, .int .u64 x.header.s, .int .u64 x.header.r, .int .u64 x.header.b, .int .i64 x.header.o, .slice x.ta x.txs.length x.tc, .slice x.ga x.guilts.length x.gc] 56)) (by first | exact hx | exact hx.below ((Below.refl B w).alloc hB _)) (by simp; omega) hl; generalize Out.empty.block x = S1 at *; obtain ⟨⟨h1, h2, h3, h4, h5, h6, h7, h8, h9⟩, ts, tA, tc, gs, gA, gc⟩ := x; dsimp only [BlockD.val] at *; go_enter Tryz.func114, Tryz.ntmps114; go_wp2_with fail; refine hWr.mono ?_; rintro e w1 ⟨rfl, hb⟩; go_wp2_with fail
 go_ret2
 exact ⟨rfl, ((Below.refl _ _).alloc (Nat.le_refl _) _).trans (hb.mono (by simp))⟩
set_option maxRecDepth 100000 in
set_option maxHeartbeats 2000000 in
theorem rput_block (x : BlockD) (B : Nat) (w : World) (hx : x.held w B) (hB : B ≤ w.heap.size) (hl : blockM x ≤ 10000000) :
  Calls Tryz.prog 115 #[x.val] w fun e w' => e = .returned (.tuple #[.string (bs (Out.empty.block x).rs), .int .i64 (Out.empty.block x).re]) ∧ Below w.heap.size w w' := by
 obtain ⟨⟨h1, h2, h3, h4, h5, h6, h7, h8, h9⟩, ts, tA, tc, gs, gA, gc⟩ := x; dsimp only [BlockD.val]; go_enter Tryz.func115, Tryz.ntmps115; go_wp2_with fail; refine (rblock_any ⟨⟨h1, h2, h3, h4, h5, h6, h7, h8, h9⟩, ts, tA, tc, gs, gA, gc⟩ B _ (w.heap.size + 1) _ (by have hN := Ref.new (w.alloc (.cells #[.int .i64 h1, .int .i64 h2, .int .u64 h3, .int .u64 h4, .int .u64 h5, .int .u64 h6, .int .u64 h7, .int .u64 h8, .int .i64 h9, .slice tA ts.length tc, .slice gA gs.length gc] 56)); simpa using hN) (by simp [Out.empty]; omega) (by first | exact hx.below (((Below.refl B w).alloc hB _).alloc (by simp; omega) _) | exact hx) (by omega)).mono ?_; rintro e w1 ⟨rfl, hW1, hT1⟩; have hgl1 := hW1.lt; have hS := hT1.size; have hBel : Below w.heap.size w w1 := (((Below.refl _ _).alloc (Nat.le_refl _) _).alloc (by simp) _ |>.trans (hT1.low.mono (by omega)))
 go_wp2_with fail; refine (rout_any _ _ _ hW1).mono ?_; rintro e w9 ⟨rfl, rfl⟩; go_wp2_with fail
 go_ret2
 exact ⟨rfl, hBel⟩
end Go.Proofs.YtjhaafbbdgjagaaGreat
