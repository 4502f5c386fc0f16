/- What proves guilt: package vote's and the reference's Proves. -/
import Derived.Test.YtjmkcndjjfokiaaProg
import Derived.Test.YtjmkcndjjfokiaaWr10
import Derived.Test.YtjmkcndjjfokiaaTail
import Derived.RegionTactic
namespace Go.Proofs.Ytjmkcndjjfokiaa
open Go.RowKit
def sameVote (a b : VoteD) : Bool := (a.h == b.h) && (a.r == b.r) && (a.s == b.s) && (a.has == b.has) && (a.b == b.b) && (a.f == b.f)
def provesS (g : GuiltD) : Bool := decide ((Out.empty.guilt g).re = 0) && (g.a.h == g.b.h) && (g.a.r == g.b.r) && (g.a.s == g.b.s) && (g.a.f == g.b.f) && !sameVote g.a g.b
set_option maxRecDepth 100000 in
set_option maxHeartbeats 1000000 in
theorem rproves_any (x : GuiltD) (hx : x.ok) (w : World) :
    Calls Try.prog 33 #[x.val] w fun e w' => e = .returned (.bool (provesS x)) ∧ Below w.heap.size w w' := by
  have hP := fun W => rput_guilt x hx W
  have hC : Hid (provesS x = (decide ((Out.empty.guilt x).re = 0) && (x.a.h == x.b.h) && (x.a.r == x.b.r) && (x.a.s == x.b.s) && (x.a.f == x.b.f) && !sameVote x.a x.b)) := rfl
  generalize (Out.empty.guilt x).re = er at *
  generalize (Out.empty.guilt x).rs = rs at *
  obtain ⟨⟨a1, a2, a3, a4, a5, a6⟩, ⟨b1, b2, b3, b4, b5, b6⟩⟩ := x
  dsimp only [GuiltD.val, sameVote] at *
  go_enter Try.func33, Try.ntmps33
  go_wp2_with fail
  refine (hP _).mono ?_
  rintro e w1 ⟨rfl, hb1⟩
  have hsz1 := hb1.size
  simp at hsz1
  have hBx := (Blk.new w 58 #[.int .i64 a1, .int .i64 a2, .int .i64 a3, .bool a4, .int .u64 a5, .int .i64 a6, .int .i64 b1, .int .i64 b2, .int .i64 b3, .bool b4, .int .u64 b5, .int .i64 b6]).below hb1 (by simp)
  have hbel1 : Below w.heap.size w w1 := ((Below.refl _ _).alloc (Nat.le_refl _) _).trans (hb1.mono (by simp))
  have c0 := (hBx.cell 0).trans (show _ = some (Value.int .i64 a1) from rfl)
  have c1 := (hBx.cell 1).trans (show _ = some (Value.int .i64 a2) from rfl)
  have c2 := (hBx.cell 2).trans (show _ = some (Value.int .i64 a3) from rfl)
  have c3 := (hBx.cell 3).trans (show _ = some (Value.bool a4) from rfl)
  have c4 := (hBx.cell 4).trans (show _ = some (Value.int .u64 a5) from rfl)
  have c5 := (hBx.cell 5).trans (show _ = some (Value.int .i64 a6) from rfl)
  have c6 := (hBx.cell 6).trans (show _ = some (Value.int .i64 b1) from rfl)
  have c7 := (hBx.cell 7).trans (show _ = some (Value.int .i64 b2) from rfl)
  have c8 := (hBx.cell 8).trans (show _ = some (Value.int .i64 b3) from rfl)
  have c9 := (hBx.cell 9).trans (show _ = some (Value.bool b4) from rfl)
  have c10 := (hBx.cell 10).trans (show _ = some (Value.int .u64 b5) from rfl)
  have c11 := (hBx.cell 11).trans (show _ = some (Value.int .i64 b6) from rfl)
  have e0 := fun o => hBx.cell_a 0 (Value.int .i64 a1) rfl o
  have e1 := fun o => hBx.cell_a 1 (Value.int .i64 a2) rfl o
  have e2 := fun o => hBx.cell_a 2 (Value.int .i64 a3) rfl o
  have e3 := fun o => hBx.cell_a 3 (Value.bool a4) rfl o
  have e4 := fun o => hBx.cell_a 4 (Value.int .u64 a5) rfl o
  have e5 := fun o => hBx.cell_a 5 (Value.int .i64 a6) rfl o
  have e6 := fun o => hBx.cell_a 6 (Value.int .i64 b1) rfl o
  have e7 := fun o => hBx.cell_a 7 (Value.int .i64 b2) rfl o
  have e8 := fun o => hBx.cell_a 8 (Value.int .i64 b3) rfl o
  have e9 := fun o => hBx.cell_a 9 (Value.bool b4) rfl o
  have e10 := fun o => hBx.cell_a 10 (Value.int .u64 b5) rfl o
  have e11 := fun o => hBx.cell_a 11 (Value.int .i64 b6) rfl o
  go_wp2_with fail
  all_goals
    go_ret
    refine ⟨ret_bool (by rw [hC.out]; simp [*]), ?_⟩
    first
      | exact hbel1
      | exact hbel1.alloc (by omega) _
      | exact (hbel1.alloc (by omega) _).alloc (by simp; omega) _
end Go.Proofs.Ytjmkcndjjfokiaa
