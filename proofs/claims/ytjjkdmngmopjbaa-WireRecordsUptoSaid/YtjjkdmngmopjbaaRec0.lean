/- Is a block, a cert none? Both sides. -/
import Derived.Test.YtjjkdmngmopjbaaProg
import Derived.Test.YtjjkdmngmopjbaaWrV
namespace Go.Proofs.Ytjjkdmngmopjbaa
open Go.RowKit
theorem eqb (x y : Int) : (x == y) = decide (x = y) := by rw [Bool.eq_iff_iff]; simp
theorem len0 (n : Nat) : ((n : Int) == 0) = decide (n = 0) := by rw [Bool.eq_iff_iff]; simp
set_option maxRecDepth 100000 in
set_option maxHeartbeats 1000000 in
theorem noBlock_any (x : BlockD) (w : World) :
    Calls Try.prog 91 #[x.val] w fun e w' => e = .returned (.bool (noBlock x)) ∧ Below w.heap.size w w' := by
  obtain ⟨⟨h1, h2, h3, h4, h5, h6, h7, h8, h9⟩, ts, tA, tc, gs, gA, gc⟩ := x
  dsimp only [BlockD.val]
  have hN : Hid (noBlock ⟨⟨h1, h2, h3, h4, h5, h6, h7, h8, h9⟩, ts, tA, tc, gs, gA, gc⟩ = (noHeader ⟨h1, h2, h3, h4, h5, h6, h7, h8, h9⟩ && decide (ts.length = 0) && decide (gs.length = 0))) := rfl
  go_enter Try.func91, Try.ntmps91
  go_wp2_with fail
  all_goals
    go_ret
    exact ⟨ret_bool (by rw [hN.out]; simp_all [noHeader, len0]), (Below.refl _ _).alloc (Nat.le_refl _) _⟩
set_option maxRecDepth 100000 in
set_option maxHeartbeats 1000000 in
theorem emptyBlock_any (x : BlockD) (w : World) :
    Calls Try.prog 98 #[x.val] w fun e w' => e = .returned (.bool (noBlock x)) ∧ Below w.heap.size w w' := by
  obtain ⟨⟨h1, h2, h3, h4, h5, h6, h7, h8, h9⟩, ts, tA, tc, gs, gA, gc⟩ := x
  dsimp only [BlockD.val]
  have hN : Hid (noBlock ⟨⟨h1, h2, h3, h4, h5, h6, h7, h8, h9⟩, ts, tA, tc, gs, gA, gc⟩ = (noHeader ⟨h1, h2, h3, h4, h5, h6, h7, h8, h9⟩ && decide (ts.length = 0) && decide (gs.length = 0))) := rfl
  go_enter Try.func98, Try.ntmps98
  go_wp2_with fail
  all_goals
    go_ret
    exact ⟨ret_bool (by rw [hN.out]; simp_all [noHeader, len0]), (Below.refl _ _).alloc (Nat.le_refl _) _⟩
set_option maxRecDepth 100000 in
set_option maxHeartbeats 1000000 in
theorem noCert_any (x : CertD) (w : World) :
    Calls Try.prog 92 #[x.val] w fun e w' => e = .returned (.bool (noCert x)) ∧ Below w.heap.size w w' := by
  obtain ⟨x1, x2, x3, x4, x5, fs, fA, fc⟩ := x
  dsimp only [CertD.val]
  have hN : Hid (noCert ⟨x1, x2, x3, x4, x5, fs, fA, fc⟩ = (decide (x1 = 0) && decide (x2 = 0) && decide (x3 = 0) && !x4 && decide (x5 = 0) && decide (fs.length = 0))) := rfl
  go_enter Try.func92, Try.ntmps92
  go_wp2_with fail
  all_goals
    go_ret
    exact ⟨ret_bool (by rw [hN.out]; simp_all [len0]), (Below.refl _ _).alloc (Nat.le_refl _) _⟩
set_option maxRecDepth 100000 in
set_option maxHeartbeats 1000000 in
theorem emptyCert_any (x : CertD) (w : World) :
    Calls Try.prog 99 #[x.val] w fun e w' => e = .returned (.bool (noCert x)) ∧ Below w.heap.size w w' := by
  obtain ⟨x1, x2, x3, x4, x5, fs, fA, fc⟩ := x
  dsimp only [CertD.val]
  have hN : Hid (noCert ⟨x1, x2, x3, x4, x5, fs, fA, fc⟩ = (decide (x1 = 0) && decide (x2 = 0) && decide (x3 = 0) && !x4 && decide (x5 = 0) && decide (fs.length = 0))) := rfl
  go_enter Try.func99, Try.ntmps99
  go_wp2_with fail
  all_goals
    go_ret
    exact ⟨ret_bool (by rw [hN.out]; simp_all [len0]), (Below.refl _ _).alloc (Nat.le_refl _) _⟩
end Go.Proofs.Ytjjkdmngmopjbaa
