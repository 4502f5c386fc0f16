/- LightExact: the statement. -/
import Derived.Test.YtjjkdmngmopjbaaProg
import Derived.Test.YtjjkdmngmopjbaaG40
import Derived.Test.YtjjkdmngmopjbaaG05
import Derived.Test.YtjjkdmngmopjbaaRows
set_option linter.unusedSimpArgs false
set_option linter.unusedVariables false
namespace Go.Proofs.Ytjjkdmngmopjbaa
open Go.RowKit Vc
theorem lightExact_walk (x : ViewD) (A : Option Addr) (l : List ShownD) (c : Nat) (W : World) (hx : IsViewDL W (viewCells x) x) (hl : Lay 17 ShownD.cells W W.heap.size A l) (hw : ∀ y ∈ l, IsShownDL W (ShownD.cells y) y) (hm : viewM x + (sumL shownM l + 1) ≤ 1048576) :
    Calls Try.prog 5 #[.agg (viewCells x).toArray, .slice A l.length c] W fun e w' => e = .returned (.bool true) ∧ Below W.heap.size W w' := by
  obtain ⟨_, hok, hlc, hcm, hs, hwide, hvw, hve, hvh⟩ := hx
  have hv : 3 * x.seats.length ≤ 1048576 := by
    unfold viewM at hm
    rw [show sumL seatM x.seats = 3 * x.seats.length from sumL_const 3 x.seats] at hm
    omega
  have hll := sumL_len shownM (fun y => by unfold shownM; omega) l
  have hP : LawP ⟨x.c, x.w, x.e, x.h, x.s, x.seats⟩ l := by
    refine ⟨hok, hwide, hvw, hve, hvh, fun y hy => ⟨(hw y hy).2.1.2, (hw y hy).2.2⟩, by show x.seats.length ≤ 1048576; omega, by omega, fun y hy => ?_⟩
    have h1 := sumL_mem shownM hy
    unfold shownM sightM certM at h1 hm
    omega
  have h := light_ok _ [.agg [.int .i64, .int .i64, .int .i64, .int .i64, .int .u64, .slc], .one .slc] [.one .bool] Try.func5 (by kernel_rfl) (by kernel_rfl) (lawU ⟨x.c, x.w, x.e, x.h, x.s, x.seats⟩ x.sa x.sc l A c) W rfl ⟨_, _, _, _, _, _, rfl, hP, hs, hl, fun y hy => (hw y hy).2.1.1⟩
  refine Calls.mono (show Calls Try.prog 5 #[.agg (viewCells x).toArray, .slice A l.length c] W _ from h) ?_
  rintro e w' ⟨os, _, rfl, rfl, _, hb⟩
  exact ⟨rfl, hb⟩

namespace lightExact
open Go.ChangeShapes Go.WideShapes Go.ChangeAt Go.RowKit
set_option linter.unusedVariables false
set_option maxRecDepth 100000 in
theorem walk {H : Type} (enc : TypeId × Value → H) : LawWalkB enc Try.prog Try.f5 5 := by
  intro W args ds p hA hval hlt hfz hbulk
  rw [Try.params5] at hA hval
  obtain ⟨v0, vs0, d0, ds0, p0, q0, hargs, rfl, rfl, h0, r0⟩ := trodAll_cons hA
  obtain ⟨v1, vs1, d1, ds1, p1, q1, rfl, rfl, rfl, h1, r1⟩ := trodAll_cons r0
  obtain ⟨rfl, rfl, rfl⟩ := trodAll_nil r1
  obtain rfl : args = #[v0, v1] := by cases args; simp_all
  simp only [Rows.uptoBulkAll] at hbulk
  obtain ⟨x0, rfl, hx0, hm0⟩ := openL_view (hval 0 _ v0 rfl rfl) h0
  obtain ⟨A1, c1, l1, rfl, ⟨lc1, cm1, hl1, hw1⟩, hm1⟩ := openL_showns (hval 1 _ v1 rfl rfl) h1
  exact lightExact_walk x0 A1 l1 c1 W hx0 hl1 hw1 (by omega)
set_option maxRecDepth 100000 in
theorem lifted (os : Os) (started : os.Started) (H : Type) (enc : TypeId × Value → H) (F : Stop.Interp) :
    ReturnsInHanded {} Try.checked os 5 .any ((Rows.OpenSpec.upto Rows.lightExactSpec).pre6 enc Try.prog Try.f5 Rows.lightExactUptoRow.domain false) (((Rows.OpenSpec.upto Rows.lightExactSpec).at F).post enc Try.prog Try.f5 false true false false) := by
  refine returnsInHanded_of_cond (C := Try.checked) (s := Rows.OpenSpec.upto Rows.lightExactSpec) (k := Rows.uptoSmall) rfl (by kernel_rfl) started (by kernel_rfl) Try.func5
    (OpenSpec.witness (enc := enc) (C := Try.checked) (s := Rows.OpenSpec.upto Rows.lightExactSpec) (k := Rows.uptoSmall) rfl false ⟨#[], #[.agg #[.int .i64 0, .int .i64 0, .int .i64 0, .int .i64 0, .int .u64 0, .slice none 0 0], .slice none 0 0], []⟩ 8 (by kernel_rfl) (by kernel_rfl) (by kernel_rfl)
      (x := ([.agg [.lit (.int .i64 0), .lit (.int .i64 0), .lit (.int .i64 0), .lit (.int .i64 0), .lit (.int .u64 0), .nil], .nil], [], [])) (by kernel_rfl) rfl (by kernel_rfl)) ?_
  intro W base args ds gs before hval hW _ hk _
  exact law_contract (C := Try.checked) (s := Rows.lightExactSpec) (by kernel_rfl) (by kernel_rfl) rfl rfl Try.underlying4 (fun ds h => match ds, h with | [_, _], _ => rfl) (walk enc) W args ds gs before hval hW hk
set_option maxRecDepth 100000 in
theorem funcAt : Try.pinned.checked.prog.funcNamed Rows.lightExactUptoRow.func = some 5 := by kernel_rfl
set_option maxRecDepth 100000 in
theorem closed : joinedFacts Try.pinned.checked.prog 5 Try.f5 (Rows.OpenSpec.upto Rows.lightExactSpec).bare Rows.lightExactUptoRow = true := by kernel_rfl
set_option maxRecDepth 100000 in
theorem over : Rows.lightExactUptoRow.holds Try.pinned (Rows.OpenSpec.upto Rows.lightExactSpec) :=
  OpenClaim.holds_of_cond 5 Try.f5 rfl rfl rfl rfl rfl rfl rfl ⟨rfl, rfl, rfl, rfl, rfl⟩ rfl rfl rfl rfl rfl funcAt Try.func5 closed
    (of_decide_eq_true (by kernel_rfl)) (by unfold Func.isWrapper; first | (rw [if_pos (by decide +kernel)]; kernel_rfl) | (rw [if_neg (by decide +kernel)]; exact ⟨rfl, rfl⟩))
    (fun os started H enc _ F => lifted os started H enc F)
end lightExact
/-- the statement -/
theorem lightExact_holds : Rows.LightExactUptoSaid := lightExact.over
#print axioms lightExact_holds
end Go.Proofs.Ytjjkdmngmopjbaa
