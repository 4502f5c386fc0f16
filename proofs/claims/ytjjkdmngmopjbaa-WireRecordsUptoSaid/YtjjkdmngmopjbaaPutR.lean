/- Records: what both sides put: a value of 38 cells stays one opaque row. -/
import Derived.Test.YtjjkdmngmopjbaaProg
import Derived.Test.YtjjkdmngmopjbaaWr14
import Derived.Test.YtjjkdmngmopjbaaRecW
import Derived.Test.YtjjkdmngmopjbaaRecR
import Derived.Test.YtjjkdmngmopjbaaBox
namespace Go.Proofs.Ytjjkdmngmopjbaa
open Go.RowKit
theorem record_agg (x : RecordD) : ∃ C : Array Value, x.val = .agg C ∧ C.size = 38 := by
  obtain ⟨x1, ⟨v1, v2, v3, v4, v5, v6⟩, ⟨m1, m2, ⟨⟨h1, h2, h3, h4, h5, h6, h7, h8, h9⟩, ts, tA, tc, gs, gA, gc⟩, bl, bA, bc⟩, ⟨⟨c1, c2, c3, c4, c5, c6, c6a, c6c⟩, ⟨⟨k1, k2, k3, k4, k5, k6, k7, k8, k9⟩, us, uA, uc, qs, qA, qc⟩⟩⟩ := x
  exact ⟨_, rfl, rfl⟩
set_option maxRecDepth 100000 in
set_option maxHeartbeats 2000000 in
theorem write_record (x : RecordD) (B : Nat) (w : World) (hx : x.held w B) (hB : B ≤ w.heap.size) (hl : recordM x ≤ 10000000) :
    Calls Try.prog 51 #[x.val, .func (.func 52) #[] #[]] w fun e w' => e = .returned (.tuple #[.string (bs (Out.empty.record x).rs), .int .i64 (Out.empty.record x).re]) ∧ Below w.heap.size w w' := by
  have hw := fun W g S h a b c => wrecord_any x B W g S h a b c
  obtain ⟨C, hC, hn⟩ := record_agg x
  rw [hC] at hw ⊢
  go_enter Try.func51, Try.ntmps51
  go_upto_region 2 with fail
  have hBX : Blk ((w.alloc (.cells C 41)).alloc (.cells #[.slice none 0 0, .bool false, .bool false] 164)) w.heap.size 41 C := (Blk.new w _ C).alloc _
  have hN := Wrt.new (w.alloc (.cells C 41))
  rw [show (w.alloc (.cells C 41)).heap.size = w.heap.size + 1 by simp] at hN
  have hBel : Below w.heap.size w ((w.alloc (.cells C 41)).alloc (.cells #[.slice none 0 0, .bool false, .bool false] 164)) := ((Below.refl _ _).alloc (Nat.le_refl _) _).alloc (by simp) _
  generalize ((w.alloc (.cells C 41)).alloc (.cells #[.slice none 0 0, .bool false, .bool false] 164)) = w0 at *
  refine wp_region_lit ?_
  refine wpList_plain rfl fun K hK => ?_
  go_simp
  refine hK _ _ ?_
  clear hK K
  refine wpList_plain rfl fun K hK => ?_
  go_simp
  refine hK _ _ ?_
  clear hK K
  refine wpList_load_mid rfl _ _ rfl w.heap.size 0 rfl (C.extract 0 (0 + C.size)).toList _ (World.rangeAt_of_block hBX 0 C.size) Try.underlying41 rfl ((show (Try.prog.info? 41).map (·.size) = some 38 from by kernel_rfl).trans (by simp [hn])) ?_
  rw [show ((C.extract 0 (0 + C.size)).toList).toArray = C by simp]
  go_wp2_with fail
  refine (hw _ (w.heap.size + 1) _ hN (by simp [Out.empty]; omega) (hx.below (hBel.mono hB)) (by omega)).mono ?_
  rintro e w1 ⟨rfl, ⟨v, hb, ho⟩, hT1⟩
  have hgl := hb.lt
  have hS := hT1.size
  have hBel1 : Below w.heap.size w w1 := hBel.trans (hT1.low.mono (by omega))
  generalize hSE : Out.empty.record x = S1 at *
  have HSE := Lib.hid hSE
  clear hSE hw
  have c0 := (hb.cell 0).trans (show _ = some v from rfl)
  have c1 := (hb.cell 1).trans (show _ = some (Value.bool S1.far) from rfl)
  have c2 := (hb.cell 2).trans (show _ = some (Value.bool S1.odd) from rfl)
  have hcv := conv_own w1 ho
  clear hb ho
  obtain ⟨b, far, odd⟩ := S1
  dsimp only at *
  cases far
  · cases odd
    · go_wp2_with fail
      go_ret2
      exact ⟨by rw [HSE.out]; rfl, hBel1⟩
    · go_wp2_with fail
      go_ret2
      exact ⟨by rw [HSE.out]; rfl, hBel1⟩
  · go_wp2_with fail
    go_ret2
    exact ⟨by rw [HSE.out]; rfl, hBel1⟩
set_option maxRecDepth 100000 in
set_option maxHeartbeats 2000000 in
theorem put_record (x : RecordD) (B : Nat) (w : World) (hx : x.held w B) (hB : B ≤ w.heap.size) (hl : recordM x ≤ 10000000) :
    Calls Try.prog 10 #[x.val] w fun e w' => e = .returned (.tuple #[.string (bs (Out.empty.record x).rs), .int .i64 (Out.empty.record x).re]) ∧ Below w.heap.size w w' := by
  have hw := fun W a b => write_record x B W a b hl
  obtain ⟨C, hC, hn⟩ := record_agg x
  rw [hC] at hw ⊢
  generalize Out.empty.record x = S1 at *
  go_enter Try.func10, Try.ntmps10
  go_upto_region 1 with fail
  have hBX : Blk (w.alloc (.cells C 41)) w.heap.size 41 C := Blk.new w _ C
  have hBel : Below w.heap.size w (w.alloc (.cells C 41)) := (Below.refl _ _).alloc (Nat.le_refl _) _
  generalize w.alloc (.cells C 41) = w0 at *
  refine wp_region_lit ?_
  refine wpList_load_mid rfl _ _ rfl w.heap.size 0 rfl (C.extract 0 (0 + C.size)).toList _ (World.rangeAt_of_block hBX 0 C.size) Try.underlying41 rfl ((show (Try.prog.info? 41).map (·.size) = some 38 from by kernel_rfl).trans (by simp [hn])) ?_
  rw [show ((C.extract 0 (0 + C.size)).toList).toArray = C by simp]
  go_wp2_with fail
  refine (hw _ (hx.below (hBel.mono hB)) (Nat.le_trans hB hBel.size)).mono ?_
  rintro e w1 ⟨rfl, hb⟩
  go_wp2_with fail
  go_ret2
  exact ⟨rfl, hBel.trans (hb.mono hBel.size)⟩
set_option maxRecDepth 100000 in
set_option maxHeartbeats 2000000 in
theorem rput_record (x : RecordD) (B : Nat) (w : World) (hx : x.held w B) (hB : B ≤ w.heap.size) (hl : recordM x ≤ 10000000) :
    Calls Try.prog 11 #[x.val] w fun e w' => e = .returned (.tuple #[.string (bs (Out.empty.record x).rs), .int .i64 (Out.empty.record x).re]) ∧ Below w.heap.size w w' := by
  have hw := fun W g S h a b c => rrecord_any x B W g S h a b c
  obtain ⟨C, hC, hn⟩ := record_agg x
  rw [hC] at hw ⊢
  go_enter Try.func11, Try.ntmps11
  go_upto_region 2 with fail
  have hBX : Blk ((w.alloc (.cells C 41)).alloc (.cells #[.string ⟨#[]⟩, .bool false, .bool false] 122)) w.heap.size 41 C := (Blk.new w _ C).alloc _
  have hN := Ref.new (w.alloc (.cells C 41))
  rw [show (w.alloc (.cells C 41)).heap.size = w.heap.size + 1 by simp] at hN
  have hBel : Below w.heap.size w ((w.alloc (.cells C 41)).alloc (.cells #[.string ⟨#[]⟩, .bool false, .bool false] 122)) := ((Below.refl _ _).alloc (Nat.le_refl _) _).alloc (by simp) _
  generalize ((w.alloc (.cells C 41)).alloc (.cells #[.string ⟨#[]⟩, .bool false, .bool false] 122)) = w0 at *
  refine wp_region_lit ?_
  refine wpList_plain rfl fun K hK => ?_
  go_simp
  refine hK _ _ ?_
  clear hK K
  refine wpList_load_mid rfl _ _ rfl w.heap.size 0 rfl (C.extract 0 (0 + C.size)).toList _ (World.rangeAt_of_block hBX 0 C.size) Try.underlying41 rfl ((show (Try.prog.info? 41).map (·.size) = some 38 from by kernel_rfl).trans (by simp [hn])) ?_
  rw [show ((C.extract 0 (0 + C.size)).toList).toArray = C by simp]
  go_wp2_with fail
  refine (hw _ (w.heap.size + 1) _ hN (by simp [Out.empty]; omega) (hx.below (hBel.mono hB)) (by omega)).mono ?_
  rintro e w1 ⟨rfl, hW1, hT1⟩
  have hgl1 := hW1.lt
  have hS := hT1.size
  have hBel1 : Below w.heap.size w w1 := hBel.trans (hT1.low.mono (by omega))
  clear hw
  go_wp2_with fail
  refine (rout_any _ _ _ hW1).mono ?_
  rintro e w9 ⟨rfl, rfl⟩
  go_wp2_with fail
  go_ret2
  exact ⟨rfl, hBel1⟩
end Go.Proofs.Ytjjkdmngmopjbaa
