/- What write and the Puts of package wire answer: messages. -/
import Derived.Test.YtjmkcndjjfokiaaProg
import Derived.Test.YtjmkcndjjfokiaaWr14
import Derived.Test.YtjmkcndjjfokiaaWrM
import Derived.Test.YtjmkcndjjfokiaaWrN
namespace Go.Proofs.Ytjmkcndjjfokiaa
open Go.RowKit
set_option maxRecDepth 100000 in
set_option maxHeartbeats 2000000 in
theorem write_message (x : MessageD) (B : Nat) (w : World) (hx : x.held w B) (hB : B ≤ w.heap.size) (hl : messageM x ≤ 10000000) :
    Calls Try.prog 115 #[x.val, .func (.func 116) #[] #[]] w fun e w' => e = .returned (.tuple #[.string (bs (Out.empty.message x).rs), .int .i64 (Out.empty.message x).re]) ∧ Below w.heap.size w w' := by
  obtain ⟨x1, x2, x3, vl, vA, vc, ml, mA, mc, kl, kA, kc, ts, tA, tc⟩ := x
  dsimp only [MessageD.val]
  go_enter Try.func115, Try.ntmps115
  go_wp2_with fail
  refine (wmessage_any ⟨x1, x2, x3, vl, vA, vc, ml, mA, mc, kl, kA, kc, ts, tA, tc⟩ B _ (w.heap.size + 1) _ (by have hN := Wrt.new (w.alloc (.cells #[.int .i64 x1, .int .i64 x2, .int .i64 x3, .slice vA vl.length vc, .slice mA ml.length mc, .slice kA kl.length kc, .slice tA ts.length tc] 95)); simpa using hN) (by simp [Out.empty]; omega) (by first | exact hx.below (((Below.refl B w).alloc hB _).alloc (by simp; omega) _) | exact hx) (by omega)).mono ?_
  rintro e w1 ⟨rfl, ⟨v, hb, ho⟩, hT1⟩
  have hgl := hb.lt
  have hS := hT1.size
  have hBel : Below w.heap.size w w1 := (((Below.refl _ _).alloc (Nat.le_refl _) _).alloc (by simp) _ |>.trans (hT1.low.mono (by omega)))
  generalize hSE : Out.empty.message ⟨x1, x2, x3, vl, vA, vc, ml, mA, mc, kl, kA, kc, ts, tA, tc⟩ = S1 at *
  have HSE := Lib.hid hSE
  clear hSE
  have c0 := (hb.cell 0).trans (show _ = some v from rfl)
  have c1 := (hb.cell 1).trans (show _ = some (Value.bool S1.far) from rfl)
  have c2 := (hb.cell 2).trans (show _ = some (Value.bool S1.odd) from rfl)
  have hcv := conv_own w1 ho
  clear hb ho
  obtain ⟨b, far, odd⟩ := S1
  dsimp only at *
  cases far
  · cases odd
    · go_wp2_with fail
      go_ret2
      exact ⟨by rw [HSE.out]; rfl, hBel⟩
    · go_wp2_with fail
      go_ret2
      exact ⟨by rw [HSE.out]; rfl, hBel⟩
  · go_wp2_with fail
    go_ret2
    exact ⟨by rw [HSE.out]; rfl, hBel⟩
set_option maxRecDepth 100000 in
theorem put_message (x : MessageD) (B : Nat) (w : World) (hx : x.held w B) (hB : B ≤ w.heap.size) (hl : messageM x ≤ 10000000) :
    Calls Try.prog 47 #[x.val] w fun e w' => e = .returned (.tuple #[.string (bs (Out.empty.message x).rs), .int .i64 (Out.empty.message x).re]) ∧ Below w.heap.size w w' := by
  have hWr := write_message x B (w.alloc (.cells #[.int .i64 x.f, .int .i64 x.t, .int .i64 x.h, .slice x.va x.votes.length x.vc, .slice x.ma x.motions.length x.mc, .slice x.ka x.knowns.length x.kc, .slice x.xa x.txs.length x.xc] 95)) (by first | exact hx | exact hx.below ((Below.refl B w).alloc hB _)) (by simp; omega) hl
  generalize Out.empty.message x = S1 at *
  obtain ⟨x1, x2, x3, vl, vA, vc, ml, mA, mc, kl, kA, kc, ts, tA, tc⟩ := x
  dsimp only [MessageD.val] at *
  go_enter Try.func47, Try.ntmps47
  go_wp2_with fail
  refine hWr.mono ?_
  rintro e w1 ⟨rfl, hb⟩
  go_wp2_with fail
  go_ret2
  exact ⟨rfl, ((Below.refl _ _).alloc (Nat.le_refl _) _).trans (hb.mono (by simp))⟩
set_option maxRecDepth 100000 in
set_option maxHeartbeats 2000000 in
theorem rput_message (x : MessageD) (B : Nat) (w : World) (hx : x.held w B) (hB : B ≤ w.heap.size) (hl : messageM x ≤ 10000000) :
    Calls Try.prog 48 #[x.val] w fun e w' => e = .returned (.tuple #[.string (bs (Out.empty.message x).rs), .int .i64 (Out.empty.message x).re]) ∧ Below w.heap.size w w' := by
  obtain ⟨x1, x2, x3, vl, vA, vc, ml, mA, mc, kl, kA, kc, ts, tA, tc⟩ := x
  dsimp only [MessageD.val]
  go_enter Try.func48, Try.ntmps48
  go_wp2_with fail
  refine (rmessage_any ⟨x1, x2, x3, vl, vA, vc, ml, mA, mc, kl, kA, kc, ts, tA, tc⟩ B _ (w.heap.size + 1) _ (by have hN := Ref.new (w.alloc (.cells #[.int .i64 x1, .int .i64 x2, .int .i64 x3, .slice vA vl.length vc, .slice mA ml.length mc, .slice kA kl.length kc, .slice tA ts.length tc] 95)); simpa using hN) (by simp [Out.empty]; omega) (by first | exact hx.below (((Below.refl B w).alloc hB _).alloc (by simp; omega) _) | exact hx) (by omega)).mono ?_
  rintro e w1 ⟨rfl, hW1, hT1⟩
  have hgl1 := hW1.lt
  have hS := hT1.size
  have hBel : Below w.heap.size w w1 := (((Below.refl _ _).alloc (Nat.le_refl _) _).alloc (by simp) _ |>.trans (hT1.low.mono (by omega)))
  go_wp2_with fail
  refine (rout_any _ _ _ hW1).mono ?_
  rintro e w9 ⟨rfl, rfl⟩
  go_wp2_with fail
  go_ret2
  exact ⟨rfl, hBel⟩
end Go.Proofs.Ytjmkcndjjfokiaa
