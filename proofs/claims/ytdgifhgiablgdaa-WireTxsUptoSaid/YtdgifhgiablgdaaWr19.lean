/- What write and the Puts of package wire answer: proofs, headers, certs, transactions. -/
import Derived.Test.YtdgifhgiablgdaaProg
import Derived.Test.YtdgifhgiablgdaaWr15t
import Derived.Test.YtdgifhgiablgdaaWr18t
namespace Go.Proofs.Ytdgifhgiablgdaa
open Go.RowKit
set_option maxRecDepth 100000 in
set_option maxHeartbeats 400000 in
theorem write_cert (x : CertD) (B : Nat) (w : World) (hx : x.held w B) (hB : B ≤ w.heap.size) (hl : certM x ≤ 10000000) :
    Calls Try.prog 144 #[x.val, .func (.func 145) #[] #[]] w fun e w' => e = .returned (.tuple #[.string (bs (Out.empty.cert x).rs), .int .i64 (Out.empty.cert x).re]) ∧ Below w.heap.size w w' := by
  obtain ⟨x1, x2, x3, x4, x5, x6, x6a, x6c⟩ := x
  dsimp only [CertD.val]
  go_enter Try.func144, Try.ntmps144
  go_wp2_with fail
  refine (wcert_any ⟨x1, x2, x3, x4, x5, x6, x6a, x6c⟩ B _ (w.heap.size + 1) _ (by have hN := Wrt.new (w.alloc (.cells #[.int .i64 x1, .int .i64 x2, .int .i64 x3, .bool x4, .int .u64 x5, .slice x6a x6.length x6c] 111)); simpa using hN) (by simp [Out.empty]; omega) (by first | exact hx.below (((Below.refl B w).alloc hB _).alloc (by simp; omega) _) | exact hx) (by omega)).mono ?_
  rintro e w1 ⟨rfl, ⟨v, hb, ho⟩, hT1⟩
  have hgl := hb.lt
  have hS := hT1.size
  have hBel : Below w.heap.size w w1 := (((Below.refl _ _).alloc (Nat.le_refl _) _).alloc (by simp) _ |>.trans (hT1.low.mono (by omega)))
  generalize hSE : Out.empty.cert ⟨x1, x2, x3, x4, x5, x6, x6a, x6c⟩ = S1 at *
  have HSE := Lib.hid hSE
  clear hSE
  have c0 := (hb.cell 0).trans (show _ = some v from rfl)
  have c1 := (hb.cell 1).trans (show _ = some (Value.bool S1.far) from rfl)
  have c2 := (hb.cell 2).trans (show _ = some (Value.bool S1.odd) from rfl)
  have hcv := conv_own w1 ho
  clear hb ho
  obtain ⟨b, far, odd⟩ := S1
  dsimp only at *
  cases far
  · cases odd
    · go_wp2_with fail
      go_ret2
      exact ⟨by rw [HSE.out]; rfl, hBel⟩
    · go_wp2_with fail
      go_ret2
      exact ⟨by rw [HSE.out]; rfl, hBel⟩
  · go_wp2_with fail
    go_ret2
    exact ⟨by rw [HSE.out]; rfl, hBel⟩
set_option maxRecDepth 100000 in
theorem put_cert (x : CertD) (B : Nat) (w : World) (hx : x.held w B) (hB : B ≤ w.heap.size) (hl : certM x ≤ 10000000) :
    Calls Try.prog 75 #[x.val] w fun e w' => e = .returned (.tuple #[.string (bs (Out.empty.cert x).rs), .int .i64 (Out.empty.cert x).re]) ∧ Below w.heap.size w w' := by
  have hWr := write_cert x B (w.alloc (.cells #[.int .i64 x.h, .int .i64 x.r, .int .i64 x.s, .bool x.has, .int .u64 x.b, .slice x.fa x.froms.length x.fc] 111)) (by first | exact hx | exact hx.below ((Below.refl B w).alloc hB _)) (by simp; omega) hl
  generalize Out.empty.cert x = S1 at *
  obtain ⟨x1, x2, x3, x4, x5, x6, x6a, x6c⟩ := x
  dsimp only [CertD.val] at *
  go_enter Try.func75, Try.ntmps75
  go_wp2_with fail
  refine hWr.mono ?_
  rintro e w1 ⟨rfl, hb⟩
  go_wp2_with fail
  go_ret2
  exact ⟨rfl, ((Below.refl _ _).alloc (Nat.le_refl _) _).trans (hb.mono (by simp))⟩
set_option maxRecDepth 100000 in
set_option maxHeartbeats 400000 in
theorem rput_cert (x : CertD) (B : Nat) (w : World) (hx : x.held w B) (hB : B ≤ w.heap.size) (hl : certM x ≤ 10000000) :
    Calls Try.prog 76 #[x.val] w fun e w' => e = .returned (.tuple #[.string (bs (Out.empty.cert x).rs), .int .i64 (Out.empty.cert x).re]) ∧ Below w.heap.size w w' := by
  obtain ⟨x1, x2, x3, x4, x5, x6, x6a, x6c⟩ := x
  dsimp only [CertD.val]
  go_enter Try.func76, Try.ntmps76
  go_wp2_with fail
  refine (rcert_any ⟨x1, x2, x3, x4, x5, x6, x6a, x6c⟩ B _ (w.heap.size + 1) _ (by have hN := Ref.new (w.alloc (.cells #[.int .i64 x1, .int .i64 x2, .int .i64 x3, .bool x4, .int .u64 x5, .slice x6a x6.length x6c] 111)); simpa using hN) (by simp [Out.empty]; omega) (by first | exact hx.below (((Below.refl B w).alloc hB _).alloc (by simp; omega) _) | exact hx) (by omega)).mono ?_
  rintro e w1 ⟨rfl, hW1, hT1⟩
  have hgl1 := hW1.lt
  have hS := hT1.size
  have hBel : Below w.heap.size w w1 := (((Below.refl _ _).alloc (Nat.le_refl _) _).alloc (by simp) _ |>.trans (hT1.low.mono (by omega)))
  go_wp2_with fail
  refine (rout_any _ _ _ hW1).mono ?_
  rintro e w9 ⟨rfl, rfl⟩
  go_wp2_with fail
  go_ret2
  exact ⟨rfl, hBel⟩
set_option maxRecDepth 100000 in
set_option maxHeartbeats 400000 in
theorem write_proof (x : ProofD) (B : Nat) (w : World) (hx : x.held w B) (hB : B ≤ w.heap.size) (hl : proofM x ≤ 10000000) :
    Calls Try.prog 138 #[x.val, .func (.func 139) #[] #[]] w fun e w' => e = .returned (.tuple #[.string (bs (Out.empty.proof x).rs), .int .i64 (Out.empty.proof x).re]) ∧ Below w.heap.size w w' := by
  obtain ⟨x1, x1a, x1c, x2, x3, x4⟩ := x
  dsimp only [ProofD.val]
  go_enter Try.func138, Try.ntmps138
  go_wp2_with fail
  refine (wproof_any ⟨x1, x1a, x1c, x2, x3, x4⟩ B _ (w.heap.size + 1) _ (by have hN := Wrt.new (w.alloc (.cells #[.slice x1a x1.length x1c, .bool x2, .string (bs x3), .string (bs x4)] 107)); simpa using hN) (by simp [Out.empty]; omega) (by first | exact hx.below (((Below.refl B w).alloc hB _).alloc (by simp; omega) _) | exact hx) (by omega)).mono ?_
  rintro e w1 ⟨rfl, ⟨v, hb, ho⟩, hT1⟩
  have hgl := hb.lt
  have hS := hT1.size
  have hBel : Below w.heap.size w w1 := (((Below.refl _ _).alloc (Nat.le_refl _) _).alloc (by simp) _ |>.trans (hT1.low.mono (by omega)))
  generalize hSE : Out.empty.proof ⟨x1, x1a, x1c, x2, x3, x4⟩ = S1 at *
  have HSE := Lib.hid hSE
  clear hSE
  have c0 := (hb.cell 0).trans (show _ = some v from rfl)
  have c1 := (hb.cell 1).trans (show _ = some (Value.bool S1.far) from rfl)
  have c2 := (hb.cell 2).trans (show _ = some (Value.bool S1.odd) from rfl)
  have hcv := conv_own w1 ho
  clear hb ho
  obtain ⟨b, far, odd⟩ := S1
  dsimp only at *
  cases far
  · cases odd
    · go_wp2_with fail
      go_ret2
      exact ⟨by rw [HSE.out]; rfl, hBel⟩
    · go_wp2_with fail
      go_ret2
      exact ⟨by rw [HSE.out]; rfl, hBel⟩
  · go_wp2_with fail
    go_ret2
    exact ⟨by rw [HSE.out]; rfl, hBel⟩
set_option maxRecDepth 100000 in
theorem put_proof (x : ProofD) (B : Nat) (w : World) (hx : x.held w B) (hB : B ≤ w.heap.size) (hl : proofM x ≤ 10000000) :
    Calls Try.prog 71 #[x.val] w fun e w' => e = .returned (.tuple #[.string (bs (Out.empty.proof x).rs), .int .i64 (Out.empty.proof x).re]) ∧ Below w.heap.size w w' := by
  have hWr := write_proof x B (w.alloc (.cells #[.slice x.ta x.turns.length x.tc, .bool x.leaf, .string (bs x.key), .string (bs x.value)] 107)) (by first | exact hx | exact hx.below ((Below.refl B w).alloc hB _)) (by simp; omega) hl
  generalize Out.empty.proof x = S1 at *
  obtain ⟨x1, x1a, x1c, x2, x3, x4⟩ := x
  dsimp only [ProofD.val] at *
  go_enter Try.func71, Try.ntmps71
  go_wp2_with fail
  refine hWr.mono ?_
  rintro e w1 ⟨rfl, hb⟩
  go_wp2_with fail
  go_ret2
  exact ⟨rfl, ((Below.refl _ _).alloc (Nat.le_refl _) _).trans (hb.mono (by simp))⟩
set_option maxRecDepth 100000 in
set_option maxHeartbeats 400000 in
theorem rput_proof (x : ProofD) (B : Nat) (w : World) (hx : x.held w B) (hB : B ≤ w.heap.size) (hl : proofM x ≤ 10000000) :
    Calls Try.prog 72 #[x.val] w fun e w' => e = .returned (.tuple #[.string (bs (Out.empty.proof x).rs), .int .i64 (Out.empty.proof x).re]) ∧ Below w.heap.size w w' := by
  obtain ⟨x1, x1a, x1c, x2, x3, x4⟩ := x
  dsimp only [ProofD.val]
  go_enter Try.func72, Try.ntmps72
  go_wp2_with fail
  refine (rproof_any ⟨x1, x1a, x1c, x2, x3, x4⟩ B _ (w.heap.size + 1) _ (by have hN := Ref.new (w.alloc (.cells #[.slice x1a x1.length x1c, .bool x2, .string (bs x3), .string (bs x4)] 107)); simpa using hN) (by simp [Out.empty]; omega) (by first | exact hx.below (((Below.refl B w).alloc hB _).alloc (by simp; omega) _) | exact hx) (by omega)).mono ?_
  rintro e w1 ⟨rfl, hW1, hT1⟩
  have hgl1 := hW1.lt
  have hS := hT1.size
  have hBel : Below w.heap.size w w1 := (((Below.refl _ _).alloc (Nat.le_refl _) _).alloc (by simp) _ |>.trans (hT1.low.mono (by omega)))
  go_wp2_with fail
  refine (rout_any _ _ _ hW1).mono ?_
  rintro e w9 ⟨rfl, rfl⟩
  go_wp2_with fail
  go_ret2
  exact ⟨rfl, hBel⟩
set_option maxRecDepth 100000 in
set_option maxHeartbeats 400000 in
theorem write_tx (x : TxD) (B : Nat) (w : World) (hx : x.held w B) (hB : B ≤ w.heap.size) (hl : txM x ≤ 10000000) :
    Calls Try.prog 135 #[x.val, .func (.func 136) #[] #[]] w fun e w' => e = .returned (.tuple #[.string (bs (Out.empty.tx x).rs), .int .i64 (Out.empty.tx x).re]) ∧ Below w.heap.size w w' := by
  obtain ⟨x1, x2, x3, x4, x5, x6, x7, x8, al, aA, ac, ss, sA, sc, ps, pA, pc⟩ := x
  dsimp only [TxD.val]
  go_enter Try.func135, Try.ntmps135
  go_wp2_with fail
  refine (wtx_any ⟨x1, x2, x3, x4, x5, x6, x7, x8, al, aA, ac, ss, sA, sc, ps, pA, pc⟩ B _ (w.heap.size + 1) _ (by have hN := Wrt.new (w.alloc (.cells #[.int .i64 x1, .int .i64 x2, .int .i64 x3, .int .i64 x4, .int .i64 x5, .int .i64 x6, .int .i64 x7, .string (bs x8), .slice aA al.length ac, .slice sA ss.length sc, .slice pA ps.length pc] 104)); simpa using hN) (by simp [Out.empty]; omega) (by first | exact hx.below (((Below.refl B w).alloc hB _).alloc (by simp; omega) _) | exact hx) (by omega)).mono ?_
  rintro e w1 ⟨rfl, ⟨v, hb, ho⟩, hT1⟩
  have hgl := hb.lt
  have hS := hT1.size
  have hBel : Below w.heap.size w w1 := (((Below.refl _ _).alloc (Nat.le_refl _) _).alloc (by simp) _ |>.trans (hT1.low.mono (by omega)))
  generalize hSE : Out.empty.tx ⟨x1, x2, x3, x4, x5, x6, x7, x8, al, aA, ac, ss, sA, sc, ps, pA, pc⟩ = S1 at *
  have HSE := Lib.hid hSE
  clear hSE
  have c0 := (hb.cell 0).trans (show _ = some v from rfl)
  have c1 := (hb.cell 1).trans (show _ = some (Value.bool S1.far) from rfl)
  have c2 := (hb.cell 2).trans (show _ = some (Value.bool S1.odd) from rfl)
  have hcv := conv_own w1 ho
  clear hb ho
  obtain ⟨b, far, odd⟩ := S1
  dsimp only at *
  cases far
  · cases odd
    · go_wp2_with fail
      go_ret2
      exact ⟨by rw [HSE.out]; rfl, hBel⟩
    · go_wp2_with fail
      go_ret2
      exact ⟨by rw [HSE.out]; rfl, hBel⟩
  · go_wp2_with fail
    go_ret2
    exact ⟨by rw [HSE.out]; rfl, hBel⟩
set_option maxRecDepth 100000 in
theorem put_tx (x : TxD) (B : Nat) (w : World) (hx : x.held w B) (hB : B ≤ w.heap.size) (hl : txM x ≤ 10000000) :
    Calls Try.prog 69 #[x.val] w fun e w' => e = .returned (.tuple #[.string (bs (Out.empty.tx x).rs), .int .i64 (Out.empty.tx x).re]) ∧ Below w.heap.size w w' := by
  have hWr := write_tx x B (w.alloc (.cells #[.int .i64 x.k, .int .i64 x.f, .int .i64 x.n, .int .i64 x.p, .int .i64 x.l, .int .i64 x.t, .int .i64 x.a, .string (bs x.text), .slice x.aa x.args.length x.ac, .slice x.sa x.sights.length x.sc, .slice x.pa x.proofs.length x.pc] 104)) (by first | exact hx | exact hx.below ((Below.refl B w).alloc hB _)) (by simp; omega) hl
  generalize Out.empty.tx x = S1 at *
  obtain ⟨x1, x2, x3, x4, x5, x6, x7, x8, al, aA, ac, ss, sA, sc, ps, pA, pc⟩ := x
  dsimp only [TxD.val] at *
  go_enter Try.func69, Try.ntmps69
  go_wp2_with fail
  refine hWr.mono ?_
  rintro e w1 ⟨rfl, hb⟩
  go_wp2_with fail
  go_ret2
  exact ⟨rfl, ((Below.refl _ _).alloc (Nat.le_refl _) _).trans (hb.mono (by simp))⟩
set_option maxRecDepth 100000 in
set_option maxHeartbeats 400000 in
theorem rput_tx (x : TxD) (B : Nat) (w : World) (hx : x.held w B) (hB : B ≤ w.heap.size) (hl : txM x ≤ 10000000) :
    Calls Try.prog 70 #[x.val] w fun e w' => e = .returned (.tuple #[.string (bs (Out.empty.tx x).rs), .int .i64 (Out.empty.tx x).re]) ∧ Below w.heap.size w w' := by
  obtain ⟨x1, x2, x3, x4, x5, x6, x7, x8, al, aA, ac, ss, sA, sc, ps, pA, pc⟩ := x
  dsimp only [TxD.val]
  go_enter Try.func70, Try.ntmps70
  go_wp2_with fail
  refine (rtx_any ⟨x1, x2, x3, x4, x5, x6, x7, x8, al, aA, ac, ss, sA, sc, ps, pA, pc⟩ B _ (w.heap.size + 1) _ (by have hN := Ref.new (w.alloc (.cells #[.int .i64 x1, .int .i64 x2, .int .i64 x3, .int .i64 x4, .int .i64 x5, .int .i64 x6, .int .i64 x7, .string (bs x8), .slice aA al.length ac, .slice sA ss.length sc, .slice pA ps.length pc] 104)); simpa using hN) (by simp [Out.empty]; omega) (by first | exact hx.below (((Below.refl B w).alloc hB _).alloc (by simp; omega) _) | exact hx) (by omega)).mono ?_
  rintro e w1 ⟨rfl, hW1, hT1⟩
  have hgl1 := hW1.lt
  have hS := hT1.size
  have hBel : Below w.heap.size w w1 := (((Below.refl _ _).alloc (Nat.le_refl _) _).alloc (by simp) _ |>.trans (hT1.low.mono (by omega)))
  go_wp2_with fail
  refine (rout_any _ _ _ hW1).mono ?_
  rintro e w9 ⟨rfl, rfl⟩
  go_wp2_with fail
  go_ret2
  exact ⟨rfl, hBel⟩
set_option maxRecDepth 100000 in
set_option maxHeartbeats 400000 in
theorem write_header (x : HeaderD) (hx : x.ok) (w : World) :
    Calls Try.prog 141 #[x.val, .func (.func 142) #[] #[]] w fun e w' => e = .returned (.tuple #[.string (bs (Out.empty.header x).rs), .int .i64 (Out.empty.header x).re]) ∧ Below w.heap.size w w' := by
  obtain ⟨x1, x2, x3, x4, x5, x6, x7, x8, x9⟩ := x
  dsimp only [HeaderD.val]
  go_enter Try.func141, Try.ntmps141
  go_wp2_with fail
  refine (wheader_any ⟨x1, x2, x3, x4, x5, x6, x7, x8, x9⟩ hx _ (w.heap.size + 1) _ (by have hN := Wrt.new (w.alloc (.cells #[.int .i64 x1, .int .i64 x2, .int .u64 x3, .int .u64 x4, .int .u64 x5, .int .u64 x6, .int .u64 x7, .int .u64 x8, .int .i64 x9] 109)); simpa using hN) (by simp [Out.empty])).mono ?_
  rintro e w1 ⟨rfl, ⟨v, hb, ho⟩, hT1⟩
  have hgl := hb.lt
  have hS := hT1.size
  have hBel : Below w.heap.size w w1 := (((Below.refl _ _).alloc (Nat.le_refl _) _).alloc (by simp) _ |>.trans (hT1.low.mono (by omega)))
  generalize hSE : Out.empty.header ⟨x1, x2, x3, x4, x5, x6, x7, x8, x9⟩ = S1 at *
  have HSE := Lib.hid hSE
  clear hSE
  have c0 := (hb.cell 0).trans (show _ = some v from rfl)
  have c1 := (hb.cell 1).trans (show _ = some (Value.bool S1.far) from rfl)
  have c2 := (hb.cell 2).trans (show _ = some (Value.bool S1.odd) from rfl)
  have hcv := conv_own w1 ho
  clear hb ho
  obtain ⟨b, far, odd⟩ := S1
  dsimp only at *
  cases far
  · cases odd
    · go_wp2_with fail
      go_ret2
      exact ⟨by rw [HSE.out]; rfl, hBel⟩
    · go_wp2_with fail
      go_ret2
      exact ⟨by rw [HSE.out]; rfl, hBel⟩
  · go_wp2_with fail
    go_ret2
    exact ⟨by rw [HSE.out]; rfl, hBel⟩
set_option maxRecDepth 100000 in
theorem put_header (x : HeaderD) (hx : x.ok) (w : World) :
    Calls Try.prog 73 #[x.val] w fun e w' => e = .returned (.tuple #[.string (bs (Out.empty.header x).rs), .int .i64 (Out.empty.header x).re]) ∧ Below w.heap.size w w' := by
  have hWr := write_header x hx
  generalize Out.empty.header x = S1 at *
  obtain ⟨x1, x2, x3, x4, x5, x6, x7, x8, x9⟩ := x
  dsimp only [HeaderD.val] at *
  go_enter Try.func73, Try.ntmps73
  go_wp2_with fail
  refine (hWr (w.alloc (.cells #[.int .i64 x1, .int .i64 x2, .int .u64 x3, .int .u64 x4, .int .u64 x5, .int .u64 x6, .int .u64 x7, .int .u64 x8, .int .i64 x9] 109))).mono ?_
  rintro e w1 ⟨rfl, hb⟩
  go_wp2_with fail
  go_ret2
  exact ⟨rfl, ((Below.refl _ _).alloc (Nat.le_refl _) _).trans (hb.mono (by simp))⟩
set_option maxRecDepth 100000 in
set_option maxHeartbeats 400000 in
theorem rput_header (x : HeaderD) (hx : x.ok) (w : World) :
    Calls Try.prog 74 #[x.val] w fun e w' => e = .returned (.tuple #[.string (bs (Out.empty.header x).rs), .int .i64 (Out.empty.header x).re]) ∧ Below w.heap.size w w' := by
  obtain ⟨x1, x2, x3, x4, x5, x6, x7, x8, x9⟩ := x
  dsimp only [HeaderD.val]
  go_enter Try.func74, Try.ntmps74
  go_wp2_with fail
  refine (rheader_any ⟨x1, x2, x3, x4, x5, x6, x7, x8, x9⟩ hx _ (w.heap.size + 1) _ (by have hN := Ref.new (w.alloc (.cells #[.int .i64 x1, .int .i64 x2, .int .u64 x3, .int .u64 x4, .int .u64 x5, .int .u64 x6, .int .u64 x7, .int .u64 x8, .int .i64 x9] 109)); simpa using hN) (by simp [Out.empty])).mono ?_
  rintro e w1 ⟨rfl, hW1, hT1⟩
  have hgl1 := hW1.lt
  have hS := hT1.size
  have hBel : Below w.heap.size w w1 := (((Below.refl _ _).alloc (Nat.le_refl _) _).alloc (by simp) _ |>.trans (hT1.low.mono (by omega)))
  go_wp2_with fail
  refine (rout_any _ _ _ hW1).mono ?_
  rintro e w9 ⟨rfl, rfl⟩
  go_wp2_with fail
  go_ret2
  exact ⟨rfl, hBel⟩
end Go.Proofs.Ytdgifhgiablgdaa
