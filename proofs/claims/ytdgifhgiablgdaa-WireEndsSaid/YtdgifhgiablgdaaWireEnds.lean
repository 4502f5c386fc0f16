/- The law WireEnds: for every number and every digest wire.Five and wire.Eight give the reference's bytes. No condition. -/
import Derived.Test.YtdgifhgiablgdaaRows
import Derived.Test.YtdgifhgiablgdaaWire0
import Derived.Test.YtdgifhgiablgdaaFrame
namespace Go.Proofs.Ytdgifhgiablgdaa
open Go.RowKit
theorem u64_wrap (d : Int) : 0 ≤ IntKind.u64.wrap d ∧ IntKind.u64.wrap d < 18446744073709551616 := by
  rw [IntKind.wrap_u64]; omega
set_option maxRecDepth 100000 in
theorem wireEnds_walk (n d : Int) (w : World) :
    Calls Try.prog 3 #[.int .i64 n, .int .i64 d] w fun e w' => e = .returned (.bool true) ∧ Below w.heap.size w w' := by
  go_enter Try.func3, Try.ntmps3
  go_wp2_with (first
    | (go_at_call 15; refine (five_any _ _).mono ?_; rintro e w1 ⟨rfl, hb1⟩)
    | (go_at_call 16; refine (rfive_any _ _).mono ?_; rintro e w2 ⟨rfl, hb2⟩)
    | (go_at_call 17; refine (eight_any _ _ (u64_wrap _).1 (u64_wrap _).2).mono ?_; rintro e w3 ⟨rfl, hb3⟩)
    | (go_at_call 18; refine (reight_any _ _ (u64_wrap _).1 (u64_wrap _).2).mono ?_; rintro e w4 ⟨rfl, hb4⟩))
  go_ret
  exact ⟨rfl, ((hb1.trans (hb2.mono hb1.size)).trans (hb3.mono (Nat.le_trans hb1.size hb2.size))).trans (hb4.mono (Nat.le_trans (Nat.le_trans hb1.size hb2.size) hb3.size))⟩

namespace wireEnds
open Go.ChangeShapes Go.WideShapes Go.ChangeAt Go.RowKit
set_option maxRecDepth 100000 in
theorem walk {H : Type} (enc : TypeId × Value → H) : LawWalk enc Try.prog Try.f3 3 := by
  intro W args ds p hA hval hlt hfz
  rw [Try.params3] at hA hval
  obtain ⟨v0, vs0, d0, ds0, p0, q0, hargs, rfl, rfl, h0, r0⟩ := trodAll_cons hA
  obtain ⟨v1, vs1, d1, ds1, p1, q1, rfl, rfl, rfl, h1, r1⟩ := trodAll_cons r0
  obtain ⟨rfl, rfl, rfl⟩ := trodAll_nil r1
  obtain rfl : args = #[v0, v1] := by cases args; simp_all
  obtain ⟨a0, rfl, _, _, _⟩ := open_int Try.underlying3 (hval 0 _ v0 rfl rfl) h0
  obtain ⟨a1, rfl, _, _, _⟩ := open_int Try.underlying3 (hval 1 _ v1 rfl rfl) h1
  exact wireEnds_walk a0 a1 W
set_option maxRecDepth 100000 in
theorem over : Rows.wireEndsRow.holds Try.pinned (OpenSpec.ofChange Rows.wireEndsSpec) :=
  OpenClaim.holds_of_wide 3 Try.f3 rfl rfl rfl rfl rfl rfl rfl ⟨rfl, rfl, rfl, rfl, rfl⟩ rfl rfl rfl rfl rfl (by kernel_rfl) Try.func3 (by kernel_rfl)
    (of_decide_eq_true (by kernel_rfl)) (by unfold Func.isWrapper; first | (rw [if_pos (by decide +kernel)]; kernel_rfl) | (rw [if_neg (by decide +kernel)]; exact ⟨rfl, rfl⟩))
    (fun os started H enc _ => law_lift (C := Try.checked) (s := Rows.wireEndsSpec) (by kernel_rfl) started (by kernel_rfl) Try.func3 (by kernel_rfl) (by kernel_rfl) rfl rfl Try.underlying4
      (fun ds h => match ds, h with | [_, _], _ => rfl)
      (ChangeSpec.witness6 (enc := enc) (C := Try.checked) false ⟨#[], #[.int .i64 0, .int .i64 0], []⟩ 8 (by kernel_rfl) (by kernel_rfl) (by kernel_rfl) (by kernel_rfl))
      (walk enc))
end wireEnds
/-- the statement -/
theorem wireEnds_holds : Rows.WireEndsSaid := wireEnds.over
#print axioms wireEnds_holds
end Go.Proofs.Ytdgifhgiablgdaa
