/- Of the texts Hq1. -/
import Derived.Test.YtlfonmpgenoooaaProg
import Derived.Test.YtlfonmpgenoooaaG17
import Derived.Shelf.SlSortCmp.SmallK
set_option linter.unusedSimpArgs false
set_option linter.unusedVariables false
namespace Go.Proofs.Ytlfonmpgenoooaa
open Go Go.RowKit Go.Lib Go.Sort Go.Proofs
set_option maxRecDepth 100000
def swapW (w : World) (rb i j : Nat) (l : List Seat) : World := (w.drew.setCells rb (i * 2) (seatCells (at7 l j))).setCells rb (j * 2) (seatCells (at7 l i))
theorem seat_cell {w : World} {rb : Nat} {t : TypeId} {cur : Array Value} {l : List Seat} (hb : Blk w rb t cur) (ht : cur.toList.take (l.length * 2) = seatsCells l) {k j : Nat} (hk : k < l.length) (hj : j < 2) : ∃ v, (seatCells (at7 l k))[j]? = some v ∧ w.cell? ⟨rb, k * 2 + j, none⟩ = some v := by
 have h1 : (seatsCells l)[k * 2 + j]? = (seatCells (at7 l k))[j]? := by
  rw [seatsCells_at l k j hj, List.getElem?_eq_getElem hk, at7_get hk]; rfl
 have h2 : ∃ v, (seatCells (at7 l k))[j]? = some v := by
  have : j < (seatCells (at7 l k)).length := hj; exact ⟨_, List.getElem?_eq_getElem this⟩
 obtain ⟨v, hv⟩ := h2; refine ⟨v, hv, ?_⟩; have h3 : cur[k * 2 + j]? = some v := by
  rw [← Array.getElem?_toList, ← hv, ← h1, ← ht, List.getElem?_take, if_pos (by omega)]
 rw [hb.cell]; exact h3
theorem load_seat (P : Program) {w : World} {rb : Nat} {t : TypeId} {cur : Array Value} {l : List Seat} (hb : Blk w rb t cur) (ht : cur.toList.take (l.length * 2) = seatsCells l) {k : Nat} (hk : k < l.length) : Sem.run P (loadCellsFrom ⟨rb, k * 2, none⟩ 0 2 #[]) w = .ok (seatCells (at7 l k)).toArray w := by
 refine run_loadCellsFrom_list _ _ _ _ 2 rfl (fun j v hv => ?_); have hj : j < 2 := (List.getElem?_eq_some_iff.1 hv).1; obtain ⟨v', h1, h2⟩ := seat_cell hb ht hk hj; rw [h1] at hv; injection hv with hv
 rw [add_plain, h2, hv]
theorem blk_some {w : World} {rb : Nat} {t : TypeId} {cur : Array Value} (hb : Blk w rb t cur) {k : Nat} (h : k < cur.size) : ∃ v, w.cell? ⟨rb, k, none⟩ = some v := ⟨cur[k], by rw [hb.cell, Array.getElem?_eq_getElem h]⟩
set_option maxHeartbeats 2000000 in
theorem swap_any (l : List Seat) (rb c i j : Nat) (cur : Array Value) (w : World) (hb : Blk w rb 38 cur) (hc : l.length * 2 ≤ cur.size) (ht : cur.toList.take (l.length * 2) = seatsCells l) (hi : i < l.length) (hj : j < l.length) (hl : l.length < 4611686018427387904) :
  Calls Try.prog 99 #[.slice (some ⟨rb, 0, none⟩) l.length c, .int .i64 i, .int .i64 j] w fun e w' => e = .returned (.tuple #[]) ∧ w' = swapW w rb i j l := by
 have hbd := hb.drew; have mixed : Try.prog.follows .mixedOrders = true := by kernel_rfl
 have ii : (i : Int) < (l.length : Int) := by omega
 have jj : (j : Int) < (l.length : Int) := by omega
 obtain ⟨_, e1, qi0⟩ := seat_cell hbd ht hi (j := 0) (by decide); obtain ⟨_, e2, qi1⟩ := seat_cell hbd ht hi (j := 1) (by decide); obtain ⟨_, e3, qj0⟩ := seat_cell hbd ht hj (j := 0) (by decide); obtain ⟨_, e4, qj1⟩ := seat_cell hbd ht hj (j := 1) (by decide); cases e1; cases e2; cases e3; cases e4; have HW : Hid (swapW w rb i j l = (((w.drew.setCell ⟨rb, i * 2, none⟩ (.int .i64 (at7 l j).who)).setCell ⟨rb, i * 2 + 1, none⟩ (.int .i64 (at7 l j).weight)).setCell ⟨rb, j * 2, none⟩ (.int .i64 (at7 l i).who)).setCell ⟨rb, j * 2 + 1, none⟩ (.int .i64 (at7 l i).weight)) := rfl; generalize at7 l i = x at *; generalize at7 l j = y at *; rw [Nat.add_zero] at qi0 qj0; have ff : ∀ k, w.frozen? ⟨rb, k, none⟩ = false := fun k => hb.frozen k
 have fi0 := ff (i * 2); have fi1 := ff (i * 2 + 1); have fj0 := ff (j * 2); have fj1 := ff (j * 2 + 1); have pi0 : w.cell? ⟨rb, i * 2, none⟩ = some (.int .i64 x.who) := qi0; have pi1 : w.cell? ⟨rb, i * 2 + 1, none⟩ = some (.int .i64 x.weight) := qi1; have pj0 : w.cell? ⟨rb, j * 2, none⟩ = some (.int .i64 y.who) := qj0; have pj1 : w.cell? ⟨rb, j * 2 + 1, none⟩ = some (.int .i64 y.weight) := qj1; clear qi0 qi1 qj0 qj1; have h1 := hb.set_ (i * 2) (.int .i64 y.who); have h2 := h1.set_ (i * 2 + 1) (.int .i64 y.weight); have h3 := h2.set_ (j * 2) (.int .i64 x.who); obtain ⟨v2, g2⟩ := blk_some h2 (k := j * 2) (by rw [Array.size_setIfInBounds, Array.size_setIfInBounds]; omega); obtain ⟨v3, g3⟩ := blk_some h3 (k := j * 2 + 1) (by rw [Array.size_setIfInBounds, Array.size_setIfInBounds, Array.size_setIfInBounds]; omega); clear h1 h2 h3 hbd hb ht hc ff; go_enter Try.func99, Try.ntmps99
 go_big_region_o
 all_goals go_wp2
 all_goals go_end0
 all_goals exact ⟨rfl, HW.out.symm⟩
end Go.Proofs.Ytlfonmpgenoooaa
