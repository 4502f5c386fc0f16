/- What write and the Puts of package wire answer: proofs, headers, certs. -/
import Derived.Test.YtjmkcndjjfokiaaProg
import Derived.Test.YtjmkcndjjfokiaaWr14
import Derived.Test.YtjmkcndjjfokiaaWr17
namespace Go.Proofs.Ytjmkcndjjfokiaa
open Go.RowKit
set_option maxRecDepth 100000 in
set_option maxHeartbeats 400000 in
theorem write_cert (x : CertD) (B : Nat) (w : World) (hx : x.held w B) (hB : B ≤ w.heap.size) (hl : certM x ≤ 10000000) :
    Calls Try.prog 158 #[x.val, .func (.func 159) #[] #[]] w fun e w' => e = .returned (.tuple #[.string (bs (Out.empty.cert x).rs), .int .i64 (Out.empty.cert x).re]) ∧ Below w.heap.size w w' := by
  obtain ⟨x1, x2, x3, x4, x5, x6, x6a, x6c⟩ := x
  dsimp only [CertD.val]
  go_enter Try.func158, Try.ntmps158
  go_wp2_with fail
  refine (wcert_any ⟨x1, x2, x3, x4, x5, x6, x6a, x6c⟩ B _ (w.heap.size + 1) _ (by have hN := Wrt.new (w.alloc (.cells #[.int .i64 x1, .int .i64 x2, .int .i64 x3, .bool x4, .int .u64 x5, .slice x6a x6.length x6c] 54)); simpa using hN) (by simp [Out.empty]; omega) (by first | exact hx.below (((Below.refl B w).alloc hB _).alloc (by simp; omega) _) | exact hx) (by omega)).mono ?_
  rintro e w1 ⟨rfl, ⟨v, hb, ho⟩, hT1⟩
  have hgl := hb.lt
  have hS := hT1.size
  have hBel : Below w.heap.size w w1 := (((Below.refl _ _).alloc (Nat.le_refl _) _).alloc (by simp) _ |>.trans (hT1.low.mono (by omega)))
  generalize hSE : Out.empty.cert ⟨x1, x2, x3, x4, x5, x6, x6a, x6c⟩ = S1 at *
  have HSE := Lib.hid hSE
  clear hSE
  have c0 := (hb.cell 0).trans (show _ = some v from rfl)
  have c1 := (hb.cell 1).trans (show _ = some (Value.bool S1.far) from rfl)
  have c2 := (hb.cell 2).trans (show _ = some (Value.bool S1.odd) from rfl)
  have hcv := conv_own w1 ho
  clear hb ho
  obtain ⟨b, far, odd⟩ := S1
  dsimp only at *
  cases far
  · cases odd
    · go_wp2_with fail
      go_ret2
      exact ⟨by rw [HSE.out]; rfl, hBel⟩
    · go_wp2_with fail
      go_ret2
      exact ⟨by rw [HSE.out]; rfl, hBel⟩
  · go_wp2_with fail
    go_ret2
    exact ⟨by rw [HSE.out]; rfl, hBel⟩
set_option maxRecDepth 100000 in
theorem put_cert (x : CertD) (B : Nat) (w : World) (hx : x.held w B) (hB : B ≤ w.heap.size) (hl : certM x ≤ 10000000) :
    Calls Try.prog 97 #[x.val] w fun e w' => e = .returned (.tuple #[.string (bs (Out.empty.cert x).rs), .int .i64 (Out.empty.cert x).re]) ∧ Below w.heap.size w w' := by
  have hWr := write_cert x B (w.alloc (.cells #[.int .i64 x.h, .int .i64 x.r, .int .i64 x.s, .bool x.has, .int .u64 x.b, .slice x.fa x.froms.length x.fc] 54)) (by first | exact hx | exact hx.below ((Below.refl B w).alloc hB _)) (by simp; omega) hl
  generalize Out.empty.cert x = S1 at *
  obtain ⟨x1, x2, x3, x4, x5, x6, x6a, x6c⟩ := x
  dsimp only [CertD.val] at *
  go_enter Try.func97, Try.ntmps97
  go_wp2_with fail
  refine hWr.mono ?_
  rintro e w1 ⟨rfl, hb⟩
  go_wp2_with fail
  go_ret2
  exact ⟨rfl, ((Below.refl _ _).alloc (Nat.le_refl _) _).trans (hb.mono (by simp))⟩
set_option maxRecDepth 100000 in
set_option maxHeartbeats 400000 in
theorem rput_cert (x : CertD) (B : Nat) (w : World) (hx : x.held w B) (hB : B ≤ w.heap.size) (hl : certM x ≤ 10000000) :
    Calls Try.prog 100 #[x.val] w fun e w' => e = .returned (.tuple #[.string (bs (Out.empty.cert x).rs), .int .i64 (Out.empty.cert x).re]) ∧ Below w.heap.size w w' := by
  obtain ⟨x1, x2, x3, x4, x5, x6, x6a, x6c⟩ := x
  dsimp only [CertD.val]
  go_enter Try.func100, Try.ntmps100
  go_wp2_with fail
  refine (rcert_any ⟨x1, x2, x3, x4, x5, x6, x6a, x6c⟩ B _ (w.heap.size + 1) _ (by have hN := Ref.new (w.alloc (.cells #[.int .i64 x1, .int .i64 x2, .int .i64 x3, .bool x4, .int .u64 x5, .slice x6a x6.length x6c] 54)); simpa using hN) (by simp [Out.empty]; omega) (by first | exact hx.below (((Below.refl B w).alloc hB _).alloc (by simp; omega) _) | exact hx) (by omega)).mono ?_
  rintro e w1 ⟨rfl, hW1, hT1⟩
  have hgl1 := hW1.lt
  have hS := hT1.size
  have hBel : Below w.heap.size w w1 := (((Below.refl _ _).alloc (Nat.le_refl _) _).alloc (by simp) _ |>.trans (hT1.low.mono (by omega)))
  go_wp2_with fail
  refine (rout_any _ _ _ hW1).mono ?_
  rintro e w9 ⟨rfl, rfl⟩
  go_wp2_with fail
  go_ret2
  exact ⟨rfl, hBel⟩
set_option maxRecDepth 100000 in
set_option maxHeartbeats 400000 in
theorem write_proof (x : ProofD) (B : Nat) (w : World) (hx : x.held w B) (hB : B ≤ w.heap.size) (hl : proofM x ≤ 10000000) :
    Calls Try.prog 234 #[x.val, .func (.func 222) #[] #[]] w fun e w' => e = .returned (.tuple #[.string (bs (Out.empty.proof x).rs), .int .i64 (Out.empty.proof x).re]) ∧ Below w.heap.size w w' := by
  obtain ⟨x1, x1a, x1c, x2, x3, x4⟩ := x
  dsimp only [ProofD.val]
  go_enter Try.func234, Try.ntmps234
  go_wp2_with fail
  refine (wproof_any ⟨x1, x1a, x1c, x2, x3, x4⟩ B _ (w.heap.size + 1) _ (by have hN := Wrt.new (w.alloc (.cells #[.slice x1a x1.length x1c, .bool x2, .string (bs x3), .string (bs x4)] 117)); simpa using hN) (by simp [Out.empty]; omega) (by first | exact hx.below (((Below.refl B w).alloc hB _).alloc (by simp; omega) _) | exact hx) (by omega)).mono ?_
  rintro e w1 ⟨rfl, ⟨v, hb, ho⟩, hT1⟩
  have hgl := hb.lt
  have hS := hT1.size
  have hBel : Below w.heap.size w w1 := (((Below.refl _ _).alloc (Nat.le_refl _) _).alloc (by simp) _ |>.trans (hT1.low.mono (by omega)))
  generalize hSE : Out.empty.proof ⟨x1, x1a, x1c, x2, x3, x4⟩ = S1 at *
  have HSE := Lib.hid hSE
  clear hSE
  have c0 := (hb.cell 0).trans (show _ = some v from rfl)
  have c1 := (hb.cell 1).trans (show _ = some (Value.bool S1.far) from rfl)
  have c2 := (hb.cell 2).trans (show _ = some (Value.bool S1.odd) from rfl)
  have hcv := conv_own w1 ho
  clear hb ho
  obtain ⟨b, far, odd⟩ := S1
  dsimp only at *
  cases far
  · cases odd
    · go_wp2_with fail
      go_ret2
      exact ⟨by rw [HSE.out]; rfl, hBel⟩
    · go_wp2_with fail
      go_ret2
      exact ⟨by rw [HSE.out]; rfl, hBel⟩
  · go_wp2_with fail
    go_ret2
    exact ⟨by rw [HSE.out]; rfl, hBel⟩
set_option maxRecDepth 100000 in
theorem put_proof (x : ProofD) (B : Nat) (w : World) (hx : x.held w B) (hB : B ≤ w.heap.size) (hl : proofM x ≤ 10000000) :
    Calls Try.prog 206 #[x.val] w fun e w' => e = .returned (.tuple #[.string (bs (Out.empty.proof x).rs), .int .i64 (Out.empty.proof x).re]) ∧ Below w.heap.size w w' := by
  have hWr := write_proof x B (w.alloc (.cells #[.slice x.ta x.turns.length x.tc, .bool x.leaf, .string (bs x.key), .string (bs x.value)] 117)) (by first | exact hx | exact hx.below ((Below.refl B w).alloc hB _)) (by simp; omega) hl
  generalize Out.empty.proof x = S1 at *
  obtain ⟨x1, x1a, x1c, x2, x3, x4⟩ := x
  dsimp only [ProofD.val] at *
  go_enter Try.func206, Try.ntmps206
  go_wp2_with fail
  refine hWr.mono ?_
  rintro e w1 ⟨rfl, hb⟩
  go_wp2_with fail
  go_ret2
  exact ⟨rfl, ((Below.refl _ _).alloc (Nat.le_refl _) _).trans (hb.mono (by simp))⟩
set_option maxRecDepth 100000 in
set_option maxHeartbeats 400000 in
theorem rput_proof (x : ProofD) (B : Nat) (w : World) (hx : x.held w B) (hB : B ≤ w.heap.size) (hl : proofM x ≤ 10000000) :
    Calls Try.prog 209 #[x.val] w fun e w' => e = .returned (.tuple #[.string (bs (Out.empty.proof x).rs), .int .i64 (Out.empty.proof x).re]) ∧ Below w.heap.size w w' := by
  obtain ⟨x1, x1a, x1c, x2, x3, x4⟩ := x
  dsimp only [ProofD.val]
  go_enter Try.func209, Try.ntmps209
  go_wp2_with fail
  refine (rproof_any ⟨x1, x1a, x1c, x2, x3, x4⟩ B _ (w.heap.size + 1) _ (by have hN := Ref.new (w.alloc (.cells #[.slice x1a x1.length x1c, .bool x2, .string (bs x3), .string (bs x4)] 117)); simpa using hN) (by simp [Out.empty]; omega) (by first | exact hx.below (((Below.refl B w).alloc hB _).alloc (by simp; omega) _) | exact hx) (by omega)).mono ?_
  rintro e w1 ⟨rfl, hW1, hT1⟩
  have hgl1 := hW1.lt
  have hS := hT1.size
  have hBel : Below w.heap.size w w1 := (((Below.refl _ _).alloc (Nat.le_refl _) _).alloc (by simp) _ |>.trans (hT1.low.mono (by omega)))
  go_wp2_with fail
  refine (rout_any _ _ _ hW1).mono ?_
  rintro e w9 ⟨rfl, rfl⟩
  go_wp2_with fail
  go_ret2
  exact ⟨rfl, hBel⟩
set_option maxRecDepth 100000 in
set_option maxHeartbeats 400000 in
theorem write_header (x : HeaderD) (hx : x.ok) (w : World) :
    Calls Try.prog 198 #[x.val, .func (.func 167) #[] #[]] w fun e w' => e = .returned (.tuple #[.string (bs (Out.empty.header x).rs), .int .i64 (Out.empty.header x).re]) ∧ Below w.heap.size w w' := by
  obtain ⟨x1, x2, x3, x4, x5, x6, x7, x8, x9⟩ := x
  dsimp only [HeaderD.val]
  go_enter Try.func198, Try.ntmps198
  go_wp2_with fail
  refine (wheader_any ⟨x1, x2, x3, x4, x5, x6, x7, x8, x9⟩ hx _ (w.heap.size + 1) _ (by have hN := Wrt.new (w.alloc (.cells #[.int .i64 x1, .int .i64 x2, .int .u64 x3, .int .u64 x4, .int .u64 x5, .int .u64 x6, .int .u64 x7, .int .u64 x8, .int .i64 x9] 64)); simpa using hN) (by simp [Out.empty])).mono ?_
  rintro e w1 ⟨rfl, ⟨v, hb, ho⟩, hT1⟩
  have hgl := hb.lt
  have hS := hT1.size
  have hBel : Below w.heap.size w w1 := (((Below.refl _ _).alloc (Nat.le_refl _) _).alloc (by simp) _ |>.trans (hT1.low.mono (by omega)))
  generalize hSE : Out.empty.header ⟨x1, x2, x3, x4, x5, x6, x7, x8, x9⟩ = S1 at *
  have HSE := Lib.hid hSE
  clear hSE
  have c0 := (hb.cell 0).trans (show _ = some v from rfl)
  have c1 := (hb.cell 1).trans (show _ = some (Value.bool S1.far) from rfl)
  have c2 := (hb.cell 2).trans (show _ = some (Value.bool S1.odd) from rfl)
  have hcv := conv_own w1 ho
  clear hb ho
  obtain ⟨b, far, odd⟩ := S1
  dsimp only at *
  cases far
  · cases odd
    · go_wp2_with fail
      go_ret2
      exact ⟨by rw [HSE.out]; rfl, hBel⟩
    · go_wp2_with fail
      go_ret2
      exact ⟨by rw [HSE.out]; rfl, hBel⟩
  · go_wp2_with fail
    go_ret2
    exact ⟨by rw [HSE.out]; rfl, hBel⟩
set_option maxRecDepth 100000 in
theorem put_header (x : HeaderD) (hx : x.ok) (w : World) :
    Calls Try.prog 130 #[x.val] w fun e w' => e = .returned (.tuple #[.string (bs (Out.empty.header x).rs), .int .i64 (Out.empty.header x).re]) ∧ Below w.heap.size w w' := by
  have hWr := write_header x hx
  generalize Out.empty.header x = S1 at *
  obtain ⟨x1, x2, x3, x4, x5, x6, x7, x8, x9⟩ := x
  dsimp only [HeaderD.val] at *
  go_enter Try.func130, Try.ntmps130
  go_wp2_with fail
  refine (hWr (w.alloc (.cells #[.int .i64 x1, .int .i64 x2, .int .u64 x3, .int .u64 x4, .int .u64 x5, .int .u64 x6, .int .u64 x7, .int .u64 x8, .int .i64 x9] 64))).mono ?_
  rintro e w1 ⟨rfl, hb⟩
  go_wp2_with fail
  go_ret2
  exact ⟨rfl, ((Below.refl _ _).alloc (Nat.le_refl _) _).trans (hb.mono (by simp))⟩
set_option maxRecDepth 100000 in
set_option maxHeartbeats 400000 in
theorem rput_header (x : HeaderD) (hx : x.ok) (w : World) :
    Calls Try.prog 131 #[x.val] w fun e w' => e = .returned (.tuple #[.string (bs (Out.empty.header x).rs), .int .i64 (Out.empty.header x).re]) ∧ Below w.heap.size w w' := by
  obtain ⟨x1, x2, x3, x4, x5, x6, x7, x8, x9⟩ := x
  dsimp only [HeaderD.val]
  go_enter Try.func131, Try.ntmps131
  go_wp2_with fail
  refine (rheader_any ⟨x1, x2, x3, x4, x5, x6, x7, x8, x9⟩ hx _ (w.heap.size + 1) _ (by have hN := Ref.new (w.alloc (.cells #[.int .i64 x1, .int .i64 x2, .int .u64 x3, .int .u64 x4, .int .u64 x5, .int .u64 x6, .int .u64 x7, .int .u64 x8, .int .i64 x9] 64)); simpa using hN) (by simp [Out.empty])).mono ?_
  rintro e w1 ⟨rfl, hW1, hT1⟩
  have hgl1 := hW1.lt
  have hS := hT1.size
  have hBel : Below w.heap.size w w1 := (((Below.refl _ _).alloc (Nat.le_refl _) _).alloc (by simp) _ |>.trans (hT1.low.mono (by omega)))
  go_wp2_with fail
  refine (rout_any _ _ _ hW1).mono ?_
  rintro e w9 ⟨rfl, rfl⟩
  go_wp2_with fail
  go_ret2
  exact ⟨rfl, hBel⟩
end Go.Proofs.Ytjmkcndjjfokiaa
