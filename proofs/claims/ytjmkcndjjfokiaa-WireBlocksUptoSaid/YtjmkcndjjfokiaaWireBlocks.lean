/- WireBlocks: package wire's and the reference's writers agree on blocks. The argument is of bulk at most 1048576. -/
import Derived.Test.YtjmkcndjjfokiaaProg
import Derived.Test.YtjmkcndjjfokiaaFrameB
import Derived.Test.YtjmkcndjjfokiaaOpenX
import Derived.Test.YtjmkcndjjfokiaaHeavy
import Derived.Test.YtjmkcndjjfokiaaPutB
import Derived.Test.YtjmkcndjjfokiaaRows
namespace Go.Proofs.Ytjmkcndjjfokiaa
open Go.RowKit
set_option maxRecDepth 100000 in
set_option maxHeartbeats 4000000 in
theorem wireBlocks_walk (x : BlockD) (w : World) (hx : x.held w w.heap.size) (hbig : blockM x ≤ 1048576) :
    Calls Try.prog 7 #[x.val] w fun e w' => e = .returned (.bool true) ∧ Below w.heap.size w w' := by
  have f := fun W g1 g2 => put_block x w.heap.size W g1 g2 (by omega)
  have q := fun W g1 g2 => rput_block x w.heap.size W g1 g2 (by omega)
  generalize Out.empty.block x = S at f q
  have hx0 := hx
  have p1 := hx.txs
  have p2 := hx.tx
  have p3 := hx.short.1
  have hh := fun W g1 g2 g3 g4 => heavy_any x.txs x.ta x.tc w.heap.size w.heap.size W g1 g2 g3 g4 p3
  obtain ⟨⟨h1, h2, h3, h4, h5, h6, h7, h8, h9⟩, ts, tA, tc, gs, gA, gc⟩ := x
  dsimp only [BlockD.val] at *
  have hB0 : Blk (w.alloc (.cells #[.int .i64 h1, .int .i64 h2, .int .u64 h3, .int .u64 h4, .int .u64 h5, .int .u64 h6, .int .u64 h7, .int .u64 h8, .int .i64 h9, .slice tA ts.length tc, .slice gA gs.length gc] 68)) w.heap.size 68 #[.int .i64 h1, .int .i64 h2, .int .u64 h3, .int .u64 h4, .int .u64 h5, .int .u64 h6, .int .u64 h7, .int .u64 h8, .int .i64 h9, .slice tA ts.length tc, .slice gA gs.length gc] := Blk.new _ _ _
  have hbel0 : Below w.heap.size w (w.alloc (.cells #[.int .i64 h1, .int .i64 h2, .int .u64 h3, .int .u64 h4, .int .u64 h5, .int .u64 h6, .int .u64 h7, .int .u64 h8, .int .i64 h9, .slice tA ts.length tc, .slice gA gs.length gc] 68)) := (Below.refl _ _).alloc (Nat.le_refl _) _
  go_enter Try.func7, Try.ntmps7
  go_wp2_with fail
  refine (hh _ (Rd.below p1 hbel0) hbel0.size (fun y hy => (p2 y hy).below hbel0) hbel0.size).mono ?_
  rintro e w1 ⟨bq1, rfl, hb1⟩
  have hB1 := hB0.below hb1 hB0.lt
  have hbel1 := hbel0.trans (hb1.mono hbel0.size)
  cases bq1
  · by_cases hs : gs.length ≤ 65536
    · have hsi : ¬ (65536 : Int) < (gs.length : Int) := by omega
      as_aux_lemma =>
      have d1_0 := (hB1.cell 0).trans (show _ = some (Value.int .i64 h1) from rfl)
      have d1_1 := (hB1.cell 1).trans (show _ = some (Value.int .i64 h2) from rfl)
      have d1_2 := (hB1.cell 2).trans (show _ = some (Value.int .u64 h3) from rfl)
      have d1_3 := (hB1.cell 3).trans (show _ = some (Value.int .u64 h4) from rfl)
      have d1_4 := (hB1.cell 4).trans (show _ = some (Value.int .u64 h5) from rfl)
      have d1_5 := (hB1.cell 5).trans (show _ = some (Value.int .u64 h6) from rfl)
      have d1_6 := (hB1.cell 6).trans (show _ = some (Value.int .u64 h7) from rfl)
      have d1_7 := (hB1.cell 7).trans (show _ = some (Value.int .u64 h8) from rfl)
      have d1_8 := (hB1.cell 8).trans (show _ = some (Value.int .i64 h9) from rfl)
      have d1_9 := (hB1.cell 9).trans (show _ = some (Value.slice tA ts.length tc) from rfl)
      have d1_10 := (hB1.cell 10).trans (show _ = some (Value.slice gA gs.length gc) from rfl)
      go_wp2_with fail
      refine (f _ (hx.below hbel1) hbel1.size).mono ?_
      rintro e w2 ⟨rfl, hb2⟩
      have hB2 := hB1.below hb2 hB1.lt
      have hbel2 := hbel1.trans (hb2.mono hbel1.size)
      have d2_0 := (hB2.cell 0).trans (show _ = some (Value.int .i64 h1) from rfl)
      have d2_1 := (hB2.cell 1).trans (show _ = some (Value.int .i64 h2) from rfl)
      have d2_2 := (hB2.cell 2).trans (show _ = some (Value.int .u64 h3) from rfl)
      have d2_3 := (hB2.cell 3).trans (show _ = some (Value.int .u64 h4) from rfl)
      have d2_4 := (hB2.cell 4).trans (show _ = some (Value.int .u64 h5) from rfl)
      have d2_5 := (hB2.cell 5).trans (show _ = some (Value.int .u64 h6) from rfl)
      have d2_6 := (hB2.cell 6).trans (show _ = some (Value.int .u64 h7) from rfl)
      have d2_7 := (hB2.cell 7).trans (show _ = some (Value.int .u64 h8) from rfl)
      have d2_8 := (hB2.cell 8).trans (show _ = some (Value.int .i64 h9) from rfl)
      have d2_9 := (hB2.cell 9).trans (show _ = some (Value.slice tA ts.length tc) from rfl)
      have d2_10 := (hB2.cell 10).trans (show _ = some (Value.slice gA gs.length gc) from rfl)
      go_wp2_with fail
      refine (q _ (hx.below hbel2) hbel2.size).mono ?_
      rintro e w3 ⟨rfl, hb3⟩
      have hbel3 := hbel2.trans (hb3.mono hbel2.size)
      go_wp2_with fail
      go_ret
      exact ⟨rfl, hbel3⟩
    · have hsi : (65536 : Int) < (gs.length : Int) := by omega
      have d1_10 := (hB1.cell 10).trans (show _ = some (Value.slice gA gs.length gc) from rfl)
      go_wp2_with fail
      go_ret
      exact ⟨rfl, hbel1⟩
  · go_wp2_with fail
    go_ret
    exact ⟨rfl, hbel1⟩

namespace wireBlocks
open Go.ChangeShapes Go.WideShapes Go.ChangeAt Go.RowKit
set_option linter.unusedVariables false
set_option maxRecDepth 100000 in
theorem walk {H : Type} (enc : TypeId × Value → H) : LawWalkB enc Try.prog Try.f7 7 := by
  intro W args ds p hA hval hlt hfz hbulk
  rw [Try.params7] at hA hval
  obtain ⟨v0, vs0, d0, ds0, p0, q0, hargs, rfl, rfl, h0, r0⟩ := trodAll_cons hA
  obtain ⟨rfl, rfl, rfl⟩ := trodAll_nil r0
  obtain rfl : args = #[v0] := by cases args; simp_all
  simp only [Rows.uptoBulkAll] at hbulk
  obtain ⟨x0, rfl, hx0, hm0⟩ := openB_block (hval 0 _ v0 rfl rfl) h0
  exact wireBlocks_walk x0 W hx0.2 (by omega)
set_option maxRecDepth 100000 in
theorem lifted (os : Os) (started : os.Started) (H : Type) (enc : TypeId × Value → H) (F : Stop.Interp) :
    ReturnsInHanded {} Try.checked os 7 .any ((Rows.OpenSpec.upto Rows.wireBlocksSpec).pre6 enc Try.prog Try.f7 Rows.wireBlocksUptoRow.domain false) (((Rows.OpenSpec.upto Rows.wireBlocksSpec).at F).post enc Try.prog Try.f7 false true false false) := by
  refine returnsInHanded_of_cond (C := Try.checked) (s := Rows.OpenSpec.upto Rows.wireBlocksSpec) (k := Rows.uptoSmall) rfl (by kernel_rfl) started (by kernel_rfl) Try.func7
    (OpenSpec.witness (enc := enc) (C := Try.checked) (s := Rows.OpenSpec.upto Rows.wireBlocksSpec) (k := Rows.uptoSmall) rfl false ⟨#[], #[.agg #[.int .i64 0, .int .i64 0, .int .u64 0, .int .u64 0, .int .u64 0, .int .u64 0, .int .u64 0, .int .u64 0, .int .i64 0, .slice none 0 0, .slice none 0 0]], []⟩ 8 (by kernel_rfl) (by kernel_rfl) (by kernel_rfl)
      (x := ([.agg [.agg [.lit (.int .i64 0), .lit (.int .i64 0), .lit (.int .u64 0), .lit (.int .u64 0), .lit (.int .u64 0), .lit (.int .u64 0), .lit (.int .u64 0), .lit (.int .u64 0), .lit (.int .i64 0)], .nil, .nil]], [], [])) (by kernel_rfl) rfl (by kernel_rfl)) ?_
  intro W base args ds gs before hval hW _ hk _
  exact law_contract (C := Try.checked) (s := Rows.wireBlocksSpec) (by kernel_rfl) (by kernel_rfl) rfl rfl Try.underlying4 (fun ds h => match ds, h with | [_], _ => rfl) (walk enc) W args ds gs before hval hW hk
set_option maxRecDepth 100000 in
theorem over : Rows.wireBlocksUptoRow.holds Try.pinned (Rows.OpenSpec.upto Rows.wireBlocksSpec) :=
  OpenClaim.holds_of_cond 7 Try.f7 rfl rfl rfl rfl rfl rfl rfl ⟨rfl, rfl, rfl, rfl, rfl⟩ rfl rfl rfl rfl rfl (by kernel_rfl) Try.func7 (by kernel_rfl)
    (of_decide_eq_true (by kernel_rfl)) (by unfold Func.isWrapper; first | (rw [if_pos (by decide +kernel)]; kernel_rfl) | (rw [if_neg (by decide +kernel)]; exact ⟨rfl, rfl⟩))
    (fun os started H enc _ F => lifted os started H enc F)
end wireBlocks
/-- the statement -/
theorem wireBlocks_holds : Rows.WireBlocksUptoSaid := wireBlocks.over
#print axioms wireBlocks_holds
end Go.Proofs.Ytjmkcndjjfokiaa
