/- The law Names: the document's numbers are package api's, and the empty tree and the digest of nothing answer as they should. No condition. -/
import Derived.Test.YtdgifhgiablgdaaRows
import Derived.Test.YtdgifhgiablgdaaDig0
import Derived.Test.YtdgifhgiablgdaaFrame
namespace Go.Proofs.Ytdgifhgiablgdaa
open Go.RowKit
set_option maxRecDepth 100000 in
theorem findEmpty_any (wd : Int) (k : List UInt8) (w : World) : Calls Try.prog 93 #[.agg #[.int .i64 wd, .pointer none], .string (bs k)] w fun e w' => e = .returned (.pointer none) ∧ Below w.heap.size w w' := by
  go_enter Try.func93, Try.ntmps93
  go_wp2
  go_loopw [5] (fun p wr => p = .pointer none ∧ Below w.heap.size w wr) (fun _ _ => 0)
  case atStart => exact ⟨rfl, (Below.refl _ _).alloc (Nat.le_refl _) _⟩
  case round =>
    obtain ⟨rfl, hb⟩ := hrel
    go_wp2
    go_ret
    exact ⟨rfl, hb⟩
set_option maxRecDepth 100000 in
theorem getEmpty_any (wd : Int) (w : World) : Calls Try.prog 32 #[.agg #[.int .i64 wd, .pointer none], .string ⟨#[]⟩] w fun e w' => e = .returned (.string ⟨#[]⟩) ∧ Below w.heap.size w w' := by
  go_enter Try.func32, Try.ntmps32
  go_wp2_with fail
  refine (findEmpty_any wd [] _).mono ?_
  rintro e w1 ⟨rfl, hb1⟩
  go_wp2
  go_ret
  exact ⟨rfl, ((Below.refl _ _).alloc (Nat.le_refl _) _).trans (hb1.mono (by simp))⟩
set_option maxRecDepth 100000 in
theorem new_any (wd : Int) (w : World) : Calls Try.prog 30 #[.int .i64 wd] w fun e w' => e = .returned (.agg #[.int .i64 wd, .pointer none]) ∧ Below w.heap.size w w' := by
  go_enter Try.func30, Try.ntmps30
  go_wp2
  exact bodyPost_ret (v := .agg #[.int .i64 wd, .pointer none]) (by simp [results, Try.results30, go_sem]) rfl ⟨rfl, (Below.refl _ _).alloc (Nat.le_refl _) _⟩
set_option maxRecDepth 100000 in
theorem names_walk (w : World) :
    Calls Try.prog 7 #[] w fun e w' => e = .returned (.bool true) ∧ Below w.heap.size w w' := by
  have ho : (ofS 8 0 [] == ofS 8 0 []) = true := by simp
  have H1 := Lib.hid (fun (W : World) => of_any 8 0 [] none 0 W.heap.size W (Rd.nil _ _ _ _) (Nat.le_refl _) (by simp) (by intro p hp; simp at hp))
  have H2 := Lib.hid (fun (W : World) => rof_any 8 0 [] none 0 W.heap.size W (Rd.nil _ _ _ _) (Nat.le_refl _) (by simp) (by intro p hp; simp at hp))
  generalize ofS 8 0 [] = o at *
  go_enter Try.func7, Try.ntmps7
  go_wp2_with fail
  refine (new_any 1 _).mono ?_
  rintro e w1 ⟨rfl, hb1⟩
  go_wp2_with fail
  refine (H1.out _).mono ?_
  rintro e w2 ⟨rfl, hb2⟩
  have hblk := blk_laid hb2 (by simp)
  have c0 := (hblk.cell 0).trans (show _ = some _ from rfl)
  have c1 := (hblk.cell 1).trans (show _ = some _ from rfl)
  have g2 := (hb1.alloc hb1.size _).trans (hb2.mono (by have := hb1.size; simp; omega))
  go_wp2_with fail
  refine (getEmpty_any 1 _).mono ?_
  rintro e w3 ⟨rfl, hb3⟩
  have g3 := g2.trans (hb3.mono g2.size)
  go_wp2_with fail
  refine (H2.out _).mono ?_
  rintro e w4 ⟨rfl, hb4⟩
  go_wp2
  go_ret
  exact ⟨rfl, g3.trans (hb4.mono g3.size)⟩

namespace names
open Go.ChangeShapes Go.WideShapes Go.ChangeAt Go.RowKit
set_option linter.unusedVariables false
set_option maxRecDepth 100000 in
theorem walk {H : Type} (enc : TypeId × Value → H) : LawWalk enc Try.prog Try.f7 7 := by
  intro W args ds p hA hval hlt hfz
  rw [Try.params7] at hA hval
  obtain ⟨h1, rfl, rfl⟩ := trodAll_nil hA
  obtain rfl : args = #[] := by cases args; simp_all
  exact names_walk W
set_option maxRecDepth 100000 in
theorem over : Rows.namesRow.holds Try.pinned (OpenSpec.ofChange Rows.namesSpec) :=
  OpenClaim.holds_of_wide 7 Try.f7 rfl rfl rfl rfl rfl rfl rfl ⟨rfl, rfl, rfl, rfl, rfl⟩ rfl rfl rfl rfl rfl (by kernel_rfl) Try.func7 (by kernel_rfl)
    (of_decide_eq_true (by kernel_rfl)) (by unfold Func.isWrapper; first | (rw [if_pos (by decide +kernel)]; kernel_rfl) | (rw [if_neg (by decide +kernel)]; exact ⟨rfl, rfl⟩))
    (fun os started H enc _ => law_lift (C := Try.checked) (s := Rows.namesSpec) (by kernel_rfl) started (by kernel_rfl) Try.func7 (by kernel_rfl) (by kernel_rfl) rfl rfl Try.underlying4
      (fun ds h => match ds, h with | [], _ => rfl)
      (ChangeSpec.witness6 (enc := enc) (C := Try.checked) false ⟨#[], #[], []⟩ 8 (by kernel_rfl) (by kernel_rfl) (by kernel_rfl) (by kernel_rfl))
      (walk enc))
end names
/-- the statement -/
theorem names_holds : Rows.NamesSaid := names.over
#print axioms names_holds
end Go.Proofs.Ytdgifhgiablgdaa
