/- WireMessages: package wire's and the reference's writers agree on messages. The argument is of bulk at most 1048576. -/
import Derived.Test.YtjmkcndjjfokiaaProg
import Derived.Test.YtjmkcndjjfokiaaFrameB
import Derived.Test.YtjmkcndjjfokiaaOpenX
import Derived.Test.YtjmkcndjjfokiaaHeavyN
import Derived.Test.YtjmkcndjjfokiaaPutM
import Derived.Test.YtjmkcndjjfokiaaRows
namespace Go.Proofs.Ytjmkcndjjfokiaa
open Go.RowKit
set_option maxRecDepth 100000 in
set_option maxHeartbeats 4000000 in
theorem wireMessages_walk (x : MessageD) (w : World) (hx : x.held w w.heap.size) (hbig : messageM x ≤ 1048576) :
    Calls Try.prog 9 #[x.val] w fun e w' => e = .returned (.bool true) ∧ Below w.heap.size w w' := by
  have f := fun W g1 g2 => put_message x w.heap.size W g1 g2 (by omega)
  have q := fun W g1 g2 => rput_message x w.heap.size W g1 g2 (by omega)
  generalize Out.empty.message x = S at f q
  have hx0 := hx
  have hh := fun W g1 g2 => heavyMessage_any x w.heap.size W g1 g2
  obtain ⟨x1, x2, x3, vl, vA, vc, ml, mA, mc, kl, kA, kc, ts, tA, tc⟩ := x
  dsimp only [MessageD.val] at *
  have hB0 : Blk (w.alloc (.cells #[.int .i64 x1, .int .i64 x2, .int .i64 x3, .slice vA vl.length vc, .slice mA ml.length mc, .slice kA kl.length kc, .slice tA ts.length tc] 95)) w.heap.size 95 #[.int .i64 x1, .int .i64 x2, .int .i64 x3, .slice vA vl.length vc, .slice mA ml.length mc, .slice kA kl.length kc, .slice tA ts.length tc] := Blk.new _ _ _
  have hbel0 : Below w.heap.size w (w.alloc (.cells #[.int .i64 x1, .int .i64 x2, .int .i64 x3, .slice vA vl.length vc, .slice mA ml.length mc, .slice kA kl.length kc, .slice tA ts.length tc] 95)) := (Below.refl _ _).alloc (Nat.le_refl _) _
  go_enter Try.func9, Try.ntmps9
  go_wp2_with fail
  refine (hh _ (hx.below hbel0) hbel0.size).mono ?_
  rintro e w1 ⟨bq1, rfl, hb1⟩
  have hB1 := hB0.below hb1 hB0.lt
  have hbel1 := hbel0.trans (hb1.mono hbel0.size)
  cases bq1
  · as_aux_lemma =>
    have d1_0 := (hB1.cell 0).trans (show _ = some (Value.int .i64 x1) from rfl)
    have d1_1 := (hB1.cell 1).trans (show _ = some (Value.int .i64 x2) from rfl)
    have d1_2 := (hB1.cell 2).trans (show _ = some (Value.int .i64 x3) from rfl)
    have d1_3 := (hB1.cell 3).trans (show _ = some (Value.slice vA vl.length vc) from rfl)
    have d1_4 := (hB1.cell 4).trans (show _ = some (Value.slice mA ml.length mc) from rfl)
    have d1_5 := (hB1.cell 5).trans (show _ = some (Value.slice kA kl.length kc) from rfl)
    have d1_6 := (hB1.cell 6).trans (show _ = some (Value.slice tA ts.length tc) from rfl)
    go_wp2_with fail
    refine (f _ (hx.below hbel1) hbel1.size).mono ?_
    rintro e w2 ⟨rfl, hb2⟩
    have hB2 := hB1.below hb2 hB1.lt
    have hbel2 := hbel1.trans (hb2.mono hbel1.size)
    have d2_0 := (hB2.cell 0).trans (show _ = some (Value.int .i64 x1) from rfl)
    have d2_1 := (hB2.cell 1).trans (show _ = some (Value.int .i64 x2) from rfl)
    have d2_2 := (hB2.cell 2).trans (show _ = some (Value.int .i64 x3) from rfl)
    have d2_3 := (hB2.cell 3).trans (show _ = some (Value.slice vA vl.length vc) from rfl)
    have d2_4 := (hB2.cell 4).trans (show _ = some (Value.slice mA ml.length mc) from rfl)
    have d2_5 := (hB2.cell 5).trans (show _ = some (Value.slice kA kl.length kc) from rfl)
    have d2_6 := (hB2.cell 6).trans (show _ = some (Value.slice tA ts.length tc) from rfl)
    go_wp2_with fail
    refine (q _ (hx.below hbel2) hbel2.size).mono ?_
    rintro e w3 ⟨rfl, hb3⟩
    have hbel3 := hbel2.trans (hb3.mono hbel2.size)
    go_wp2_with fail
    go_ret
    exact ⟨rfl, hbel3⟩
  · go_wp2_with fail
    go_ret
    exact ⟨rfl, hbel1⟩

namespace wireMessages
open Go.ChangeShapes Go.WideShapes Go.ChangeAt Go.RowKit
set_option linter.unusedVariables false
set_option maxRecDepth 100000 in
theorem walk {H : Type} (enc : TypeId × Value → H) : LawWalkB enc Try.prog Try.f9 9 := by
  intro W args ds p hA hval hlt hfz hbulk
  rw [Try.params9] at hA hval
  obtain ⟨v0, vs0, d0, ds0, p0, q0, hargs, rfl, rfl, h0, r0⟩ := trodAll_cons hA
  obtain ⟨rfl, rfl, rfl⟩ := trodAll_nil r0
  obtain rfl : args = #[v0] := by cases args; simp_all
  simp only [Rows.uptoBulkAll] at hbulk
  obtain ⟨x0, rfl, hx0, hm0⟩ := openB_message (hval 0 _ v0 rfl rfl) h0
  exact wireMessages_walk x0 W hx0.2 (by omega)
set_option maxRecDepth 100000 in
theorem lifted (os : Os) (started : os.Started) (H : Type) (enc : TypeId × Value → H) (F : Stop.Interp) :
    ReturnsInHanded {} Try.checked os 9 .any ((Rows.OpenSpec.upto Rows.wireMessagesSpec).pre6 enc Try.prog Try.f9 Rows.wireMessagesUptoRow.domain false) (((Rows.OpenSpec.upto Rows.wireMessagesSpec).at F).post enc Try.prog Try.f9 false true false false) := by
  refine returnsInHanded_of_cond (C := Try.checked) (s := Rows.OpenSpec.upto Rows.wireMessagesSpec) (k := Rows.uptoSmall) rfl (by kernel_rfl) started (by kernel_rfl) Try.func9
    (OpenSpec.witness (enc := enc) (C := Try.checked) (s := Rows.OpenSpec.upto Rows.wireMessagesSpec) (k := Rows.uptoSmall) rfl false ⟨#[], #[.agg #[.int .i64 0, .int .i64 0, .int .i64 0, .slice none 0 0, .slice none 0 0, .slice none 0 0, .slice none 0 0]], []⟩ 8 (by kernel_rfl) (by kernel_rfl) (by kernel_rfl)
      (x := ([.agg [.lit (.int .i64 0), .lit (.int .i64 0), .lit (.int .i64 0), .nil, .nil, .nil, .nil]], [], [])) (by kernel_rfl) rfl (by kernel_rfl)) ?_
  intro W base args ds gs before hval hW _ hk _
  exact law_contract (C := Try.checked) (s := Rows.wireMessagesSpec) (by kernel_rfl) (by kernel_rfl) rfl rfl Try.underlying4 (fun ds h => match ds, h with | [_], _ => rfl) (walk enc) W args ds gs before hval hW hk
set_option maxRecDepth 100000 in
theorem funcAt : Try.pinned.checked.prog.funcNamed Rows.wireMessagesUptoRow.func = some 9 := by kernel_rfl
set_option maxRecDepth 100000 in
theorem closed : joinedFacts Try.pinned.checked.prog 9 Try.f9 (Rows.OpenSpec.upto Rows.wireMessagesSpec).bare Rows.wireMessagesUptoRow = true := by kernel_rfl
set_option maxRecDepth 100000 in
theorem over : Rows.wireMessagesUptoRow.holds Try.pinned (Rows.OpenSpec.upto Rows.wireMessagesSpec) :=
  OpenClaim.holds_of_cond 9 Try.f9 rfl rfl rfl rfl rfl rfl rfl ⟨rfl, rfl, rfl, rfl, rfl⟩ rfl rfl rfl rfl rfl funcAt Try.func9 closed
    (of_decide_eq_true (by kernel_rfl)) (by unfold Func.isWrapper; first | (rw [if_pos (by decide +kernel)]; kernel_rfl) | (rw [if_neg (by decide +kernel)]; exact ⟨rfl, rfl⟩))
    (fun os started H enc _ F => lifted os started H enc F)
end wireMessages
/-- the statement -/
theorem wireMessages_holds : Rows.WireMessagesUptoSaid := wireMessages.over
#print axioms wireMessages_holds
end Go.Proofs.Ytjmkcndjjfokiaa
