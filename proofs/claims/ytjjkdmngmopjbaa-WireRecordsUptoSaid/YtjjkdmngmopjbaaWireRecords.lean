/- WireRecords: package wire's and the reference's writers agree on records. The argument is of bulk at most 1048576. -/
import Derived.Test.YtjjkdmngmopjbaaProg
import Derived.Test.YtjjkdmngmopjbaaFrameB
import Derived.Test.YtjjkdmngmopjbaaOpenX
import Derived.Test.YtjjkdmngmopjbaaHeavyM
import Derived.Test.YtjjkdmngmopjbaaPutR
import Derived.Test.YtjjkdmngmopjbaaRows
namespace Go.Proofs.Ytjjkdmngmopjbaa
open Go.RowKit
set_option maxRecDepth 100000 in
set_option maxHeartbeats 4000000 in
theorem wireRecords_walk (x : RecordD) (w : World) (hx : x.held w w.heap.size) (hbig : recordM x ≤ 1048576) :
    Calls Try.prog 3 #[x.val] w fun e w' => e = .returned (.bool true) ∧ Below w.heap.size w w' := by
  have f := fun W g1 g2 => put_record x w.heap.size W g1 g2 (by omega)
  have q := fun W g1 g2 => rput_record x w.heap.size W g1 g2 (by omega)
  generalize Out.empty.record x = S at f q
  have hx0 := hx
  have hh := fun W g1 g2 => heavyMotion_any x.motion w.heap.size W g1 g2
  obtain ⟨x1, ⟨v1, v2, v3, v4, v5, v6⟩, ⟨m1, m2, ⟨⟨h1, h2, h3, h4, h5, h6, h7, h8, h9⟩, ts, tA, tc, gs, gA, gc⟩, bl, bA, bc⟩, ⟨⟨c1, c2, c3, c4, c5, c6, c6a, c6c⟩, ⟨⟨k1, k2, k3, k4, k5, k6, k7, k8, k9⟩, us, uA, uc, qs, qA, qc⟩⟩⟩ := x
  dsimp only [RecordD.val] at *
  have hB0 : Blk (w.alloc (.cells #[.int .i64 x1, .int .i64 v1, .int .i64 v2, .int .i64 v3, .bool v4, .int .u64 v5, .int .i64 v6, .int .i64 m1, .int .i64 m2, .int .i64 h1, .int .i64 h2, .int .u64 h3, .int .u64 h4, .int .u64 h5, .int .u64 h6, .int .u64 h7, .int .u64 h8, .int .i64 h9, .slice tA ts.length tc, .slice gA gs.length gc, .slice bA bl.length bc, .int .i64 c1, .int .i64 c2, .int .i64 c3, .bool c4, .int .u64 c5, .slice c6a c6.length c6c, .int .i64 k1, .int .i64 k2, .int .u64 k3, .int .u64 k4, .int .u64 k5, .int .u64 k6, .int .u64 k7, .int .u64 k8, .int .i64 k9, .slice uA us.length uc, .slice qA qs.length qc] 41)) w.heap.size 41 #[.int .i64 x1, .int .i64 v1, .int .i64 v2, .int .i64 v3, .bool v4, .int .u64 v5, .int .i64 v6, .int .i64 m1, .int .i64 m2, .int .i64 h1, .int .i64 h2, .int .u64 h3, .int .u64 h4, .int .u64 h5, .int .u64 h6, .int .u64 h7, .int .u64 h8, .int .i64 h9, .slice tA ts.length tc, .slice gA gs.length gc, .slice bA bl.length bc, .int .i64 c1, .int .i64 c2, .int .i64 c3, .bool c4, .int .u64 c5, .slice c6a c6.length c6c, .int .i64 k1, .int .i64 k2, .int .u64 k3, .int .u64 k4, .int .u64 k5, .int .u64 k6, .int .u64 k7, .int .u64 k8, .int .i64 k9, .slice uA us.length uc, .slice qA qs.length qc] := Blk.new _ _ _
  have hbel0 : Below w.heap.size w (w.alloc (.cells #[.int .i64 x1, .int .i64 v1, .int .i64 v2, .int .i64 v3, .bool v4, .int .u64 v5, .int .i64 v6, .int .i64 m1, .int .i64 m2, .int .i64 h1, .int .i64 h2, .int .u64 h3, .int .u64 h4, .int .u64 h5, .int .u64 h6, .int .u64 h7, .int .u64 h8, .int .i64 h9, .slice tA ts.length tc, .slice gA gs.length gc, .slice bA bl.length bc, .int .i64 c1, .int .i64 c2, .int .i64 c3, .bool c4, .int .u64 c5, .slice c6a c6.length c6c, .int .i64 k1, .int .i64 k2, .int .u64 k3, .int .u64 k4, .int .u64 k5, .int .u64 k6, .int .u64 k7, .int .u64 k8, .int .i64 k9, .slice uA us.length uc, .slice qA qs.length qc] 41)) := (Below.refl _ _).alloc (Nat.le_refl _) _
  go_enter Try.func3, Try.ntmps3
  have hh2 := hx.known.block.txs
  have hh3 := hx.known.block.tx
  have hh4 := hx.known.block.short.1
  go_wp2_with fail
  refine (hh _ (hx.motion.below hbel0) hbel0.size).mono ?_
  rintro e w1 ⟨bq1, rfl, hb1⟩
  have hB1 := hB0.below hb1 hB0.lt
  have hbel1 := hbel0.trans (hb1.mono hbel0.size)
  cases bq1
  · as_aux_lemma =>
    have d1_0 := (hB1.cell 0).trans (show _ = some (Value.int .i64 x1) from rfl)
    have d1_1 := (hB1.cell 1).trans (show _ = some (Value.int .i64 v1) from rfl)
    have d1_2 := (hB1.cell 2).trans (show _ = some (Value.int .i64 v2) from rfl)
    have d1_3 := (hB1.cell 3).trans (show _ = some (Value.int .i64 v3) from rfl)
    have d1_4 := (hB1.cell 4).trans (show _ = some (Value.bool v4) from rfl)
    have d1_5 := (hB1.cell 5).trans (show _ = some (Value.int .u64 v5) from rfl)
    have d1_6 := (hB1.cell 6).trans (show _ = some (Value.int .i64 v6) from rfl)
    have d1_7 := (hB1.cell 7).trans (show _ = some (Value.int .i64 m1) from rfl)
    have d1_8 := (hB1.cell 8).trans (show _ = some (Value.int .i64 m2) from rfl)
    have d1_9 := (hB1.cell 9).trans (show _ = some (Value.int .i64 h1) from rfl)
    have d1_10 := (hB1.cell 10).trans (show _ = some (Value.int .i64 h2) from rfl)
    have d1_11 := (hB1.cell 11).trans (show _ = some (Value.int .u64 h3) from rfl)
    have d1_12 := (hB1.cell 12).trans (show _ = some (Value.int .u64 h4) from rfl)
    have d1_13 := (hB1.cell 13).trans (show _ = some (Value.int .u64 h5) from rfl)
    have d1_14 := (hB1.cell 14).trans (show _ = some (Value.int .u64 h6) from rfl)
    have d1_15 := (hB1.cell 15).trans (show _ = some (Value.int .u64 h7) from rfl)
    have d1_16 := (hB1.cell 16).trans (show _ = some (Value.int .u64 h8) from rfl)
    have d1_17 := (hB1.cell 17).trans (show _ = some (Value.int .i64 h9) from rfl)
    have d1_18 := (hB1.cell 18).trans (show _ = some (Value.slice tA ts.length tc) from rfl)
    have d1_19 := (hB1.cell 19).trans (show _ = some (Value.slice gA gs.length gc) from rfl)
    have d1_20 := (hB1.cell 20).trans (show _ = some (Value.slice bA bl.length bc) from rfl)
    have d1_21 := (hB1.cell 21).trans (show _ = some (Value.int .i64 c1) from rfl)
    have d1_22 := (hB1.cell 22).trans (show _ = some (Value.int .i64 c2) from rfl)
    have d1_23 := (hB1.cell 23).trans (show _ = some (Value.int .i64 c3) from rfl)
    have d1_24 := (hB1.cell 24).trans (show _ = some (Value.bool c4) from rfl)
    have d1_25 := (hB1.cell 25).trans (show _ = some (Value.int .u64 c5) from rfl)
    have d1_26 := (hB1.cell 26).trans (show _ = some (Value.slice c6a c6.length c6c) from rfl)
    have d1_27 := (hB1.cell 27).trans (show _ = some (Value.int .i64 k1) from rfl)
    have d1_28 := (hB1.cell 28).trans (show _ = some (Value.int .i64 k2) from rfl)
    have d1_29 := (hB1.cell 29).trans (show _ = some (Value.int .u64 k3) from rfl)
    have d1_30 := (hB1.cell 30).trans (show _ = some (Value.int .u64 k4) from rfl)
    have d1_31 := (hB1.cell 31).trans (show _ = some (Value.int .u64 k5) from rfl)
    have d1_32 := (hB1.cell 32).trans (show _ = some (Value.int .u64 k6) from rfl)
    have d1_33 := (hB1.cell 33).trans (show _ = some (Value.int .u64 k7) from rfl)
    have d1_34 := (hB1.cell 34).trans (show _ = some (Value.int .u64 k8) from rfl)
    have d1_35 := (hB1.cell 35).trans (show _ = some (Value.int .i64 k9) from rfl)
    have d1_36 := (hB1.cell 36).trans (show _ = some (Value.slice uA us.length uc) from rfl)
    have d1_37 := (hB1.cell 37).trans (show _ = some (Value.slice qA qs.length qc) from rfl)
    go_wp2_with fail
    refine (heavy_any us uA uc w.heap.size w.heap.size _ (Rd.below hh2 hbel1) hbel1.size (fun y hy => (hh3 y hy).below hbel1) hbel1.size hh4).mono ?_
    rintro e w2 ⟨bq2, rfl, hb2⟩
    have hB2 := hB1.below hb2 hB1.lt
    have hbel2 := hbel1.trans (hb2.mono hbel1.size)
    cases bq2
    · by_cases hs : 4096 < wrap64 ((qs.length : Int) + (c6.length : Int))
      · as_aux_lemma =>
        have d2_26 := (hB2.cell 26).trans (show _ = some (Value.slice c6a c6.length c6c) from rfl)
        have d2_36 := (hB2.cell 36).trans (show _ = some (Value.slice uA us.length uc) from rfl)
        have d2_37 := (hB2.cell 37).trans (show _ = some (Value.slice qA qs.length qc) from rfl)
        go_wp2_with fail
        go_ret
        exact ⟨rfl, hbel2⟩
      · as_aux_lemma =>
        have d2_26 := (hB2.cell 26).trans (show _ = some (Value.slice c6a c6.length c6c) from rfl)
        have d2_36 := (hB2.cell 36).trans (show _ = some (Value.slice uA us.length uc) from rfl)
        have d2_37 := (hB2.cell 37).trans (show _ = some (Value.slice qA qs.length qc) from rfl)
        go_upto_region 3 with fail
        clear d2_26 d2_36 d2_37 hB1 hB0 hh hh2 hh3 hh4
        have hn : (#[.int .i64 x1, .int .i64 v1, .int .i64 v2, .int .i64 v3, .bool v4, .int .u64 v5, .int .i64 v6, .int .i64 m1, .int .i64 m2, .int .i64 h1, .int .i64 h2, .int .u64 h3, .int .u64 h4, .int .u64 h5, .int .u64 h6, .int .u64 h7, .int .u64 h8, .int .i64 h9, .slice tA ts.length tc, .slice gA gs.length gc, .slice bA bl.length bc, .int .i64 c1, .int .i64 c2, .int .i64 c3, .bool c4, .int .u64 c5, .slice c6a c6.length c6c, .int .i64 k1, .int .i64 k2, .int .u64 k3, .int .u64 k4, .int .u64 k5, .int .u64 k6, .int .u64 k7, .int .u64 k8, .int .i64 k9, .slice uA us.length uc, .slice qA qs.length qc] : Array Value).size = 38 := rfl
        generalize (#[.int .i64 x1, .int .i64 v1, .int .i64 v2, .int .i64 v3, .bool v4, .int .u64 v5, .int .i64 v6, .int .i64 m1, .int .i64 m2, .int .i64 h1, .int .i64 h2, .int .u64 h3, .int .u64 h4, .int .u64 h5, .int .u64 h6, .int .u64 h7, .int .u64 h8, .int .i64 h9, .slice tA ts.length tc, .slice gA gs.length gc, .slice bA bl.length bc, .int .i64 c1, .int .i64 c2, .int .i64 c3, .bool c4, .int .u64 c5, .slice c6a c6.length c6c, .int .i64 k1, .int .i64 k2, .int .u64 k3, .int .u64 k4, .int .u64 k5, .int .u64 k6, .int .u64 k7, .int .u64 k8, .int .i64 k9, .slice uA us.length uc, .slice qA qs.length qc] : Array Value) = C at *
        refine wp_region_lit ?_
        refine wpList_load_mid rfl _ _ rfl w.heap.size 0 rfl (C.extract 0 (0 + C.size)).toList _ (World.rangeAt_of_block hB2 0 C.size) Try.underlying41 rfl ((show (Try.prog.info? 41).map (·.size) = some 38 from by kernel_rfl).trans (by simp [hn])) ?_
        rw [show ((C.extract 0 (0 + C.size)).toList).toArray = C by simp]
        go_wp2_with fail
        refine (f _ (hx.below hbel2) hbel2.size).mono ?_
        rintro e w3 ⟨rfl, hb3⟩
        have hB3 := hB2.below hb3 hB2.lt
        have hbel3 := hbel2.trans (hb3.mono hbel2.size)
        go_upto_region 4 with fail
        refine wp_region_lit ?_
        refine wpList_load_mid rfl _ _ rfl w.heap.size 0 rfl (C.extract 0 (0 + C.size)).toList _ (World.rangeAt_of_block hB3 0 C.size) Try.underlying41 rfl ((show (Try.prog.info? 41).map (·.size) = some 38 from by kernel_rfl).trans (by simp [hn])) ?_
        rw [show ((C.extract 0 (0 + C.size)).toList).toArray = C by simp]
        go_wp2_with fail
        refine (q _ (hx.below hbel3) hbel3.size).mono ?_
        rintro e w4 ⟨rfl, hb4⟩
        have hbel4 := hbel3.trans (hb4.mono hbel3.size)
        go_wp2_with fail
        go_ret
        exact ⟨rfl, hbel4⟩
    · go_wp2_with fail
      go_ret
      exact ⟨rfl, hbel2⟩
  · go_wp2_with fail
    go_ret
    exact ⟨rfl, hbel1⟩

namespace wireRecords
open Go.ChangeShapes Go.WideShapes Go.ChangeAt Go.RowKit
set_option linter.unusedVariables false
set_option maxRecDepth 100000 in
theorem walk {H : Type} (enc : TypeId × Value → H) : LawWalkB enc Try.prog Try.f3 3 := by
  intro W args ds p hA hval hlt hfz hbulk
  rw [Try.params3] at hA hval
  obtain ⟨v0, vs0, d0, ds0, p0, q0, hargs, rfl, rfl, h0, r0⟩ := trodAll_cons hA
  obtain ⟨rfl, rfl, rfl⟩ := trodAll_nil r0
  obtain rfl : args = #[v0] := by cases args; simp_all
  simp only [Rows.uptoBulkAll] at hbulk
  obtain ⟨x0, rfl, hx0, hm0⟩ := openB_record (hval 0 _ v0 rfl rfl) h0
  exact wireRecords_walk x0 W hx0.2 (by omega)
set_option maxRecDepth 100000 in
theorem lifted (os : Os) (started : os.Started) (H : Type) (enc : TypeId × Value → H) (F : Stop.Interp) :
    ReturnsInHanded {} Try.checked os 3 .any ((Rows.OpenSpec.upto Rows.wireRecordsSpec).pre6 enc Try.prog Try.f3 Rows.wireRecordsUptoRow.domain false) (((Rows.OpenSpec.upto Rows.wireRecordsSpec).at F).post enc Try.prog Try.f3 false true false false) := by
  refine returnsInHanded_of_cond (C := Try.checked) (s := Rows.OpenSpec.upto Rows.wireRecordsSpec) (k := Rows.uptoSmall) rfl (by kernel_rfl) started (by kernel_rfl) Try.func3
    (OpenSpec.witness (enc := enc) (C := Try.checked) (s := Rows.OpenSpec.upto Rows.wireRecordsSpec) (k := Rows.uptoSmall) rfl false ⟨#[], #[.agg #[.int .i64 0, .int .i64 0, .int .i64 0, .int .i64 0, .bool false, .int .u64 0, .int .i64 0, .int .i64 0, .int .i64 0, .int .i64 0, .int .i64 0, .int .u64 0, .int .u64 0, .int .u64 0, .int .u64 0, .int .u64 0, .int .u64 0, .int .i64 0, .slice none 0 0, .slice none 0 0, .slice none 0 0, .int .i64 0, .int .i64 0, .int .i64 0, .bool false, .int .u64 0, .slice none 0 0, .int .i64 0, .int .i64 0, .int .u64 0, .int .u64 0, .int .u64 0, .int .u64 0, .int .u64 0, .int .u64 0, .int .i64 0, .slice none 0 0, .slice none 0 0]], []⟩ 8 (by kernel_rfl) (by kernel_rfl) (by kernel_rfl)
      (x := ([.agg [.lit (.int .i64 0), .agg [.lit (.int .i64 0), .lit (.int .i64 0), .lit (.int .i64 0), .lit (.bool false), .lit (.int .u64 0), .lit (.int .i64 0)], .agg [.lit (.int .i64 0), .lit (.int .i64 0), .agg [.agg [.lit (.int .i64 0), .lit (.int .i64 0), .lit (.int .u64 0), .lit (.int .u64 0), .lit (.int .u64 0), .lit (.int .u64 0), .lit (.int .u64 0), .lit (.int .u64 0), .lit (.int .i64 0)], .nil, .nil], .nil], .agg [.agg [.lit (.int .i64 0), .lit (.int .i64 0), .lit (.int .i64 0), .lit (.bool false), .lit (.int .u64 0), .nil], .agg [.agg [.lit (.int .i64 0), .lit (.int .i64 0), .lit (.int .u64 0), .lit (.int .u64 0), .lit (.int .u64 0), .lit (.int .u64 0), .lit (.int .u64 0), .lit (.int .u64 0), .lit (.int .i64 0)], .nil, .nil]]]], [], [])) (by kernel_rfl) rfl (by kernel_rfl)) ?_
  intro W base args ds gs before hval hW _ hk _
  exact law_contract (C := Try.checked) (s := Rows.wireRecordsSpec) (by kernel_rfl) (by kernel_rfl) rfl rfl Try.underlying4 (fun ds h => match ds, h with | [_], _ => rfl) (walk enc) W args ds gs before hval hW hk
set_option maxRecDepth 100000 in
theorem funcAt : Try.pinned.checked.prog.funcNamed Rows.wireRecordsUptoRow.func = some 3 := by kernel_rfl
set_option maxRecDepth 100000 in
theorem closed : joinedFacts Try.pinned.checked.prog 3 Try.f3 (Rows.OpenSpec.upto Rows.wireRecordsSpec).bare Rows.wireRecordsUptoRow = true := by kernel_rfl
set_option maxRecDepth 100000 in
theorem over : Rows.wireRecordsUptoRow.holds Try.pinned (Rows.OpenSpec.upto Rows.wireRecordsSpec) :=
  OpenClaim.holds_of_cond 3 Try.f3 rfl rfl rfl rfl rfl rfl rfl ⟨rfl, rfl, rfl, rfl, rfl⟩ rfl rfl rfl rfl rfl funcAt Try.func3 closed
    (of_decide_eq_true (by kernel_rfl)) (by unfold Func.isWrapper; first | (rw [if_pos (by decide +kernel)]; kernel_rfl) | (rw [if_neg (by decide +kernel)]; exact ⟨rfl, rfl⟩))
    (fun os started H enc _ F => lifted os started H enc F)
end wireRecords
/-- the statement -/
theorem wireRecords_holds : Rows.WireRecordsUptoSaid := wireRecords.over
#print axioms wireRecords_holds
end Go.Proofs.Ytjjkdmngmopjbaa
