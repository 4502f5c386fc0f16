/- How heavy motions are: it is some answer. -/
import Derived.Test.YtjjkdmngmopjbaaProg
import Derived.Test.YtjjkdmngmopjbaaWrV
namespace Go.Proofs.Ytjjkdmngmopjbaa
open Go.RowKit
set_option maxRecDepth 100000 in
set_option maxHeartbeats 2000000 in
theorem heavyMotion_any (x : MotionD) (B : Nat) (w : World) (hx : x.held w B) (hB : B ≤ w.heap.size) :
    Calls Try.prog 8 #[x.val] w (SomeB w) := by
  obtain ⟨x1, x2, ⟨⟨h1, h2, h3, h4, h5, h6, h7, h8, h9⟩, ts, tA, tc, gs, gA, gc⟩, bl, bA, bc⟩ := x
  dsimp only [MotionD.val]
  obtain ⟨⟨_, hxt, _, ⟨hs0, hs1⟩, hxq, _⟩, hxr, hs2, _⟩ := hx
  dsimp only at hxt hs0 hs1 hxq hxr hs2
  have hsm := hs0
  unfold maxLen at hs0 hs1 hs2
  go_enter Try.func8, Try.ntmps8
  go_wp2_with fail
  go_loopw [3, 4] (fun n i wr => ∃ (j : Nat) (m : Int), i = .int .i64 (j : Int) ∧ n = .int .i64 m ∧ j ≤ bl.length ∧ Blk wr w.heap.size 34 #[.int .i64 x1, .int .i64 x2, .int .i64 h1, .int .i64 h2, .int .u64 h3, .int .u64 h4, .int .u64 h5, .int .u64 h6, .int .u64 h7, .int .u64 h8, .int .i64 h9, .slice tA ts.length tc, .slice gA gs.length gc, .slice bA bl.length bc] ∧ Below w.heap.size w wr) (fun _ i _ => bl.length - (intOf i).toNat)
  case atStart => exact ⟨0, _, rfl, rfl, by omega, Blk.new _ _ _, (Below.refl _ _).alloc (Nat.le_refl _) _⟩
  case round =>
    obtain ⟨j, m, rfl, rfl, hj, hBx, hbel⟩ := hrel
    have q13 : wr.cell? ⟨w.heap.size, 13, none⟩ = some (Value.slice bA bl.length bc) := (hBx.cell 13).trans (show _ = some (Value.slice bA bl.length bc) from rfl)
    have q11 : wr.cell? ⟨w.heap.size, 11, none⟩ = some (Value.slice tA ts.length tc) := (hBx.cell 11).trans (show _ = some (Value.slice tA ts.length tc) from rfl)
    have hsz := hbel.size
    by_cases hgo : j < bl.length ∧ j < 9
    · as_aux_lemma =>
      obtain ⟨hlt, h9⟩ := hgo
      have hji : (j : Int) < (bl.length : Int) := by omega
      have h9i : (j : Int) < 9 := by omega
      obtain ⟨b, off, rfl, hbB, hc⟩ := CertsL.at_ (Rd.below hxr (hbel.mono hB)) hlt
      have d0 : wr.cell? ⟨b, off + j * 6 + 5, none⟩ = some (.slice bl[j].fa bl[j].froms.length bl[j].fc) := hc 5 _ rfl
      generalize bl[j] = y at *
      clear hc
      go_wp2_with fail
      go_roundw
      case rel => exact ⟨j + 1, _, by go_num, rfl, by omega, hBx, hbel⟩
      case measure => simp [intOf]; omega
    · have hv := heavy_any ts tA tc B B wr (Rd.below hxt (hbel.mono hB)) (by omega) (fun y hy => (hxq y hy).below (hbel.mono hB)) (by omega) hsm
      by_cases hji : (j : Int) < (bl.length : Int)
      · as_aux_lemma =>
        have h9i : ¬ (j : Int) < 9 := fun c => hgo ⟨by omega, by omega⟩
        clear hgo
        go_wp2_with fail
        all_goals first
          | (go_ret
             exact ⟨_, rfl, hbel⟩)
          | (refine hv.mono ?_
             rintro e w1 ⟨q, rfl, hb1⟩
             go_wp2_with fail
             all_goals
               go_ret
               exact ⟨_, rfl, hbel.trans (hb1.mono hsz)⟩)
      · as_aux_lemma =>
        clear hgo
        go_wp2_with fail
        all_goals first
          | (go_ret
             exact ⟨_, rfl, hbel⟩)
          | (refine hv.mono ?_
             rintro e w1 ⟨q, rfl, hb1⟩
             go_wp2_with fail
             all_goals
               go_ret
               exact ⟨_, rfl, hbel.trans (hb1.mono hsz)⟩)
end Go.Proofs.Ytjjkdmngmopjbaa
