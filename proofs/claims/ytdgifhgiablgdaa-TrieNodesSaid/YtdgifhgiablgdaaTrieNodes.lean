/- The law TrieNodes: the digests of nodes and of trees with such a node above all are the reference's. No condition. -/
import Derived.Test.YtdgifhgiablgdaaRows
import Derived.Test.YtdgifhgiablgdaaNodT
import Derived.Test.YtdgifhgiablgdaaFrame
namespace Go.Proofs.Ytdgifhgiablgdaa
open Go.RowKit
set_option maxRecDepth 100000 in
theorem trieNodes_walk (wd : Int) (n : Nod) (w : World) (hok : n.ok) :
    Calls Try.prog 6 #[.int .i64 wd, .agg (nodCells n)] w fun e w' => e = .returned (.bool true) ∧ Below w.heap.size w w' := by
  have H1 := Lib.hid (fun W => over_any wd n W hok)
  have H2 := Lib.hid (fun W => rover_any wd n W hok)
  have H3 := Lib.hid (fun W => top_any wd n W hok)
  have H4 := Lib.hid (fun W => rtop_any wd n W hok)
  obtain ⟨kind, key, value, pos, left, right⟩ := n
  generalize overS wd ⟨kind, key, value, pos, left, right⟩ = o at *
  generalize topS wd ⟨kind, key, value, pos, left, right⟩ = p at *
  simp only [nodCells] at H1 H2 H3 H4 ⊢
  have hkl : (key.length : Int) ≤ 9223372036854775807 := by have := hok.2.2.1; unfold maxLen at this; simp at this; omega
  have hvl : (value.length : Int) ≤ 9223372036854775807 := by have := hok.2.2.2; unfold maxLen at this; simp at this; omega
  have ho : (o == o) = true := by simp
  have hp : (p == p) = true := by simp
  clear hok
  go_enter Try.func6, Try.ntmps6
  go_wp2_with fail
  · go_ret
    exact ⟨rfl, (Below.refl _ _).alloc (Nat.le_refl _) _⟩
  · refine (H1.out _).mono ?_
    rintro e w1 ⟨rfl, hb1⟩
    have hblk1 := blk_laid hb1 (by simp)
    have g1 : Below w.heap.size w w1 := ((Below.refl _ _).alloc (Nat.le_refl _) _).trans (hb1.mono (by simp))
    have c10 := (hblk1.cell 0).trans (show _ = some _ from rfl)
    have c11 := (hblk1.cell 1).trans (show _ = some _ from rfl)
    have c12 := (hblk1.cell 2).trans (show _ = some _ from rfl)
    have c13 := (hblk1.cell 3).trans (show _ = some _ from rfl)
    have c14 := (hblk1.cell 4).trans (show _ = some _ from rfl)
    have c15 := (hblk1.cell 5).trans (show _ = some _ from rfl)
    go_wp2_with fail
    refine (H2.out _).mono ?_
    rintro e w2 ⟨rfl, hb2⟩
    have hblk2 := hblk1.below hb2 hblk1.lt
    have g2 := g1.trans (hb2.mono g1.size)
    have c20 := (hblk2.cell 0).trans (show _ = some _ from rfl)
    have c21 := (hblk2.cell 1).trans (show _ = some _ from rfl)
    have c22 := (hblk2.cell 2).trans (show _ = some _ from rfl)
    have c23 := (hblk2.cell 3).trans (show _ = some _ from rfl)
    have c24 := (hblk2.cell 4).trans (show _ = some _ from rfl)
    have c25 := (hblk2.cell 5).trans (show _ = some _ from rfl)
    go_wp2_with fail
    refine (H3.out _).mono ?_
    rintro e w3 ⟨rfl, hb3⟩
    have hblk3 := hblk2.below hb3 hblk2.lt
    have g3 := g2.trans (hb3.mono g2.size)
    have c30 := (hblk3.cell 0).trans (show _ = some _ from rfl)
    have c31 := (hblk3.cell 1).trans (show _ = some _ from rfl)
    have c32 := (hblk3.cell 2).trans (show _ = some _ from rfl)
    have c33 := (hblk3.cell 3).trans (show _ = some _ from rfl)
    have c34 := (hblk3.cell 4).trans (show _ = some _ from rfl)
    have c35 := (hblk3.cell 5).trans (show _ = some _ from rfl)
    go_wp2_with fail
    refine (H4.out _).mono ?_
    rintro e w4 ⟨rfl, hb4⟩
    have hblk4 := hblk3.below hb4 hblk3.lt
    have g4 := g3.trans (hb4.mono g3.size)
    go_wp2
    go_ret
    exact ⟨rfl, g4⟩

namespace trieNodes
open Go.ChangeShapes Go.WideShapes Go.ChangeAt Go.RowKit
set_option linter.unusedVariables false
set_option maxRecDepth 100000 in
theorem walk {H : Type} (enc : TypeId × Value → H) : LawWalk enc Try.prog Try.f6 6 := by
  intro W args ds p hA hval hlt hfz
  rw [Try.params6] at hA hval
  obtain ⟨v0, vs0, d0, ds0, p0, q0, hargs, rfl, rfl, h0, r0⟩ := trodAll_cons hA
  obtain ⟨v1, vs1, d1, ds1, p1, q1, rfl, rfl, rfl, h1, r1⟩ := trodAll_cons r0
  obtain ⟨rfl, rfl, rfl⟩ := trodAll_nil r1
  obtain rfl : args = #[v0, v1] := by cases args; simp_all
  obtain ⟨a0, rfl, _, _, wa0⟩ := open_int Try.underlying3 (hval 0 _ v0 rfl rfl) h0
  obtain ⟨n1, rfl, hn1⟩ := open_node (hval 1 _ v1 rfl rfl) h1
  exact trieNodes_walk a0 n1 W hn1
set_option maxRecDepth 100000 in
theorem over : Rows.trieNodesRow.holds Try.pinned (OpenSpec.ofChange Rows.trieNodesSpec) :=
  OpenClaim.holds_of_wide 6 Try.f6 rfl rfl rfl rfl rfl rfl rfl ⟨rfl, rfl, rfl, rfl, rfl⟩ rfl rfl rfl rfl rfl (by kernel_rfl) Try.func6 (by kernel_rfl)
    (of_decide_eq_true (by kernel_rfl)) (by unfold Func.isWrapper; first | (rw [if_pos (by decide +kernel)]; kernel_rfl) | (rw [if_neg (by decide +kernel)]; exact ⟨rfl, rfl⟩))
    (fun os started H enc _ => law_lift (C := Try.checked) (s := Rows.trieNodesSpec) (by kernel_rfl) started (by kernel_rfl) Try.func6 (by kernel_rfl) (by kernel_rfl) rfl rfl Try.underlying4
      (fun ds h => match ds, h with | [_, _], _ => rfl)
      (ChangeSpec.witness6 (enc := enc) (C := Try.checked) false ⟨#[], #[.int .i64 0, .agg #[.int .i64 0, .string ⟨#[]⟩, .string ⟨#[]⟩, .int .i64 0, .int .u64 0, .int .u64 0]], []⟩ 8 (by kernel_rfl) (by kernel_rfl) (by kernel_rfl) (by kernel_rfl))
      (walk enc))
end trieNodes
/-- the statement -/
theorem trieNodes_holds : Rows.TrieNodesSaid := trieNodes.over
#print axioms trieNodes_holds
end Go.Proofs.Ytdgifhgiablgdaa
