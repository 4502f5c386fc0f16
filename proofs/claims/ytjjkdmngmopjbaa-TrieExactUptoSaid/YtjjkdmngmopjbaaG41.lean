/- Of the texts PfP. -/
import Derived.Test.YtjjkdmngmopjbaaProg
import Derived.Test.YtjjkdmngmopjbaaG35
import Derived.Test.YtjjkdmngmopjbaaG30
namespace Go.Proofs.Ytjjkdmngmopjbaa
open Go.RowKit
/-- what Prove hands back -/
def ProveAns (wd : Int) (k : Key) (t : Option Tr) (w : World) (e : Ending) (w' : World) : Prop := ∃ x : ProofD, e = .returned (.tuple #[x.val, .int .i64 (if 32 < k.length then 3 else 0)]) ∧ (k.length ≤ 32 → IsProof wd k t x) ∧ x.held w' w'.heap.size ∧ x.turns.length ≤ 288 ∧ x.key.length ≤ 32 ∧ x.value.length ≤ 4096 ∧ Below w.heap.size w w'
set_option maxRecDepth 100000 in
theorem proveLong_any (wd : Int) (k : Key) (a : Option Addr) (w : World) (h : 32 < k.length) :
    Calls Try.prog 24 #[treeV wd a, .string (bs k)] w fun e w' => e = .returned (.tuple #[.agg #[.slice none 0 0, .bool false, .string ⟨#[]⟩, .string ⟨#[]⟩], .int .i64 3]) ∧ Below w.heap.size w w' := by
  have hkd : decide ((32 : Int) < (k.length : Int)) = true := decide_eq_true (by omega)
  have hA : Blk ((w.alloc (.cells #[.int .i64 wd, .pointer a] 53)).alloc (.cells #[.slice none 0 0, .bool false, .string ⟨#[]⟩, .string ⟨#[]⟩] 70)) (w.heap.size + 1) 70 #[.slice none 0 0, .bool false, .string ⟨#[]⟩, .string ⟨#[]⟩] := by
    simpa using Blk.new (w.alloc (.cells #[.int .i64 wd, .pointer a] 53)) 70 #[.slice none 0 0, .bool false, .string ⟨#[]⟩, .string ⟨#[]⟩]
  have hB : Below w.heap.size w ((w.alloc (.cells #[.int .i64 wd, .pointer a] 53)).alloc (.cells #[.slice none 0 0, .bool false, .string ⟨#[]⟩, .string ⟨#[]⟩] 70)) := ((Below.refl _ _).alloc (Nat.le_refl _) _).alloc (by simp) _
  unfold treeV
  go_enter Try.func24, Try.ntmps24
  go_upto_region 2 with fail
  generalize ((w.alloc (.cells #[.int .i64 wd, .pointer a] 53)).alloc (.cells #[.slice none 0 0, .bool false, .string ⟨#[]⟩, .string ⟨#[]⟩] 70)) = w0 at *
  have f := hA.frozen
  have a0 := (hA.cell 0).trans (show _ = some (Value.slice none 0 0) from rfl)
  have a1 := (hA.cell 1).trans (show _ = some (Value.bool false) from rfl)
  have a2 := (hA.cell 2).trans (show _ = some (Value.string ⟨#[]⟩) from rfl)
  have a3 := (hA.cell 3).trans (show _ = some (Value.string ⟨#[]⟩) from rfl)
  have hR1 := (((hA.set_ 0 (.slice none 0 0)).set_ 1 (.bool false)).set_ 2 (.string ⟨#[]⟩)).set_ 3 (.string ⟨#[]⟩)
  have z0 := (hR1.cell 0).trans (show _ = some (Value.slice none 0 0) from rfl)
  have z1 := (hR1.cell 1).trans (show _ = some (Value.bool false) from rfl)
  have z2 := (hR1.cell 2).trans (show _ = some (Value.string ⟨#[]⟩) from rfl)
  have z3 := (hR1.cell 3).trans (show _ = some (Value.string ⟨#[]⟩) from rfl)
  go_wp2_with fail
  exact bodyPost_ret (v := .tuple #[.agg #[.slice none 0 0, .bool false, .string ⟨#[]⟩, .string ⟨#[]⟩], .int .i64 3]) (by simp [results, Try.results24, go_sem, z0, z1, z2, z3]) rfl ⟨rfl, (((hB.setCell (p := ⟨w.heap.size + 1, 0, none⟩) (by dsimp only; omega) _).setCell (p := ⟨w.heap.size + 1, 1, none⟩) (by dsimp only; omega) _).setCell (p := ⟨w.heap.size + 1, 2, none⟩) (by dsimp only; omega) _).setCell (p := ⟨w.heap.size + 1, 3, none⟩) (by dsimp only; omega) _⟩
set_option maxRecDepth 100000 in
theorem proveNo_any (wd : Int) (k : Key) (w : World) (h : k.length ≤ 32) :
    Calls Try.prog 24 #[treeV wd none, .string (bs k)] w fun e w' => e = .returned (.tuple #[.agg #[.slice none 0 0, .bool false, .string ⟨#[]⟩, .string ⟨#[]⟩], .int .i64 0]) ∧ Below w.heap.size w w' := by
  have hkd : decide ((32 : Int) < (k.length : Int)) = false := decide_eq_false (by omega)
  have hA : Blk ((w.alloc (.cells #[.int .i64 wd, .pointer none] 53)).alloc (.cells #[.slice none 0 0, .bool false, .string ⟨#[]⟩, .string ⟨#[]⟩] 70)) (w.heap.size + 1) 70 #[.slice none 0 0, .bool false, .string ⟨#[]⟩, .string ⟨#[]⟩] := by
    simpa using Blk.new (w.alloc (.cells #[.int .i64 wd, .pointer none] 53)) 70 #[.slice none 0 0, .bool false, .string ⟨#[]⟩, .string ⟨#[]⟩]
  have hT : Blk ((w.alloc (.cells #[.int .i64 wd, .pointer none] 53)).alloc (.cells #[.slice none 0 0, .bool false, .string ⟨#[]⟩, .string ⟨#[]⟩] 70)) w.heap.size 53 #[.int .i64 wd, .pointer none] := (Blk.new _ _ _).alloc _
  have hB : Below w.heap.size w ((w.alloc (.cells #[.int .i64 wd, .pointer none] 53)).alloc (.cells #[.slice none 0 0, .bool false, .string ⟨#[]⟩, .string ⟨#[]⟩] 70)) := ((Below.refl _ _).alloc (Nat.le_refl _) _).alloc (by simp) _
  unfold treeV
  go_enter Try.func24, Try.ntmps24
  go_upto_region 1 with fail
  generalize ((w.alloc (.cells #[.int .i64 wd, .pointer none] 53)).alloc (.cells #[.slice none 0 0, .bool false, .string ⟨#[]⟩, .string ⟨#[]⟩] 70)) = w0 at *
  have t1 := (hT.cell 1).trans (show _ = some (Value.pointer none) from rfl)
  have f := hA.frozen
  have a0 := (hA.cell 0).trans (show _ = some (Value.slice none 0 0) from rfl)
  have a1 := (hA.cell 1).trans (show _ = some (Value.bool false) from rfl)
  have a2 := (hA.cell 2).trans (show _ = some (Value.string ⟨#[]⟩) from rfl)
  have a3 := (hA.cell 3).trans (show _ = some (Value.string ⟨#[]⟩) from rfl)
  have hR1 := (((hA.set_ 0 (.slice none 0 0)).set_ 1 (.bool false)).set_ 2 (.string ⟨#[]⟩)).set_ 3 (.string ⟨#[]⟩)
  have z0 := (hR1.cell 0).trans (show _ = some (Value.slice none 0 0) from rfl)
  have z1 := (hR1.cell 1).trans (show _ = some (Value.bool false) from rfl)
  have z2 := (hR1.cell 2).trans (show _ = some (Value.string ⟨#[]⟩) from rfl)
  have z3 := (hR1.cell 3).trans (show _ = some (Value.string ⟨#[]⟩) from rfl)
  go_wp2_with fail
  exact bodyPost_ret (v := .tuple #[.agg #[.slice none 0 0, .bool false, .string ⟨#[]⟩, .string ⟨#[]⟩], .int .i64 0]) (by simp [results, Try.results24, go_sem, z0, z1, z2, z3]) rfl ⟨rfl, (((hB.setCell (p := ⟨w.heap.size + 1, 0, none⟩) (by dsimp only; omega) _).setCell (p := ⟨w.heap.size + 1, 1, none⟩) (by dsimp only; omega) _).setCell (p := ⟨w.heap.size + 1, 2, none⟩) (by dsimp only; omega) _).setCell (p := ⟨w.heap.size + 1, 3, none⟩) (by dsimp only; omega) _⟩
theorem proveO_any (wd : Int) (k : Key) (t : Option Tr) (a : Option Addr) (w : World) (hok : Tr.ook t) (hit : ∀ y, y ∈ Tr.oitems t → y.1.length ≤ 32 ∧ y.2.length ≤ 4096 ∧ y.2 ≠ []) (h : OTrR wd w w.heap.size t a) :
    Calls Try.prog 24 #[treeV wd a, .string (bs k)] w (ProveAns wd k t w) := by
  by_cases hk : 32 < k.length
  · refine (proveLong_any wd k a w hk).mono ?_
    rintro e w' ⟨rfl, hb⟩
    exact ⟨⟨[], none, 0, false, [], []⟩, by rw [if_pos hk]; rfl, fun h => by omega, ⟨Rd.nil _ _ _ _, by simp, fun t ht => by cases ht⟩, by simp, by simp, by simp, hb⟩
  · have hk' : k.length ≤ 32 := by omega
    cases t with
    | none =>
      obtain rfl : a = none := h
      refine (proveNo_any wd k w hk').mono ?_
      rintro e w' ⟨rfl, hb⟩
      exact ⟨⟨[], none, 0, false, [], []⟩, by rw [if_neg hk]; rfl, fun _ => ⟨rfl, rfl, rfl, rfl⟩, ⟨Rd.nil _ _ _ _, by simp, fun t ht => by cases ht⟩, by simp, by simp, by simp, hb⟩
    | some t =>
      obtain ⟨q, rfl, hq⟩ := h
      have hokt : t.ok := hok
      have hk32 : ∀ y, y ∈ t.items → y.1.length ≤ 32 := fun y hy => (hit y hy).1
      have hlen := turnsT_len (wd := wd) (k := k) hokt hk32
      have hmem := hit _ (Tr.find_mem k t)
      refine (prove_any wd k t q w hk' (low_of hokt hk32) (by omega) hq).mono ?_
      rintro e w' ⟨x, rfl, h1, h2, h3, h4, h5, hb⟩
      exact ⟨x, by rw [if_neg hk], fun _ => ⟨h1, h2, h3, h4⟩, h5, by rw [h1]; exact hlen, by rw [h3]; exact hmem.1, by rw [h4]; exact hmem.2.1, hb⟩
end Go.Proofs.Ytjjkdmngmopjbaa
