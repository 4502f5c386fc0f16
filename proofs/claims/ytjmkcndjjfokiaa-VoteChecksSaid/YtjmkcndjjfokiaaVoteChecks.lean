/- VoteChecks: package vote and the reference agree on what proves guilt, and on what is a decision. -/
import Derived.Test.YtjmkcndjjfokiaaProg
import Derived.Test.YtjmkcndjjfokiaaFrame
import Derived.Test.YtjmkcndjjfokiaaOpenT
import Derived.Test.YtjmkcndjjfokiaaOpenV
import Derived.Test.YtjmkcndjjfokiaaBenchP
import Derived.Test.YtjmkcndjjfokiaaVote3
import Derived.Test.YtjmkcndjjfokiaaVote5
import Derived.Test.YtjmkcndjjfokiaaRows
namespace Go.Proofs.Ytjmkcndjjfokiaa
open Go.RowKit
theorem CertD.held.more {w : World} {B B' : Nat} {x : CertD} (h : x.held w B) (hb : B ≤ B') : x.held w B' := ⟨h.dig, Rd.more h.read hb, h.short⟩
structure Vc (w : World) (q : Nat) (xs : List Seat) (A : Option Addr) (x : CertD) (C G : Array Value) (W : World) : Prop where
  cb : Blk W q 54 C
  gb : Blk W (q + 1) 58 G
  seats : Seats W W.heap.size A xs
  held : x.held W W.heap.size
  low : Below w.heap.size w W
structure VcW (w : World) (q : Nat) (xs : List Seat) (A : Option Addr) (x : CertD) (C G : Array Value) where
  it : World
  two : Vc w q xs A x C G it
theorem Vc.drew {w : World} {q : Nat} {xs : List Seat} {A : Option Addr} {x : CertD} {C G : Array Value} {W : World} (h : Vc w q xs A x C G W) : Vc w q xs A x C G W.drew :=
  ⟨Blk.drew h.cb, Blk.drew h.gb, h.seats, ⟨h.held.dig, h.held.read, h.held.short⟩, h.low.drew⟩
theorem Vc.below {w : World} {q : Nat} {xs : List Seat} {A : Option Addr} {x : CertD} {C G : Array Value} {W W' : World} (h : Vc w q xs A x C G W) (hb : Below W.heap.size W W') : Vc w q xs A x C G W' :=
  ⟨h.cb.below hb h.cb.lt, h.gb.below hb h.gb.lt, Rd.more (Rd.below h.seats hb) hb.size, (h.held.below hb).more hb.size, h.low.trans (hb.mono h.low.size)⟩
set_option maxRecDepth 100000 in
set_option maxHeartbeats 4000000 in
theorem voteChecks_walk (l : List Seat) (A : Option Addr) (c : Nat) (x : CertD) (g : GuiltD) (hg : g.ok) (w : World) (h : Seats w w.heap.size A l) (hl : l.length ≤ maxLen) (hwide : Wide l) (hx : x.held w w.heap.size) :
    Calls Try.prog 6 #[.slice A l.length c, x.val, g.val] w fun e w' => e = .returned (.bool true) ∧ Below w.heap.size w w' := by
  have hp1 := fun W => proves_any g hg W
  have hp2 := fun W => rproves_any g hg W
  generalize hPP : provesS g = pp at *
  clear hPP
  obtain ⟨⟨a1, a2, a3, a4, a5, a6⟩, ⟨b1, b2, b3, b4, b5, b6⟩⟩ := g
  have hxs := hx.short
  by_cases hl4 : l.length ≤ 4096
  · by_cases hf4 : x.froms.length ≤ 4096
    · have hm : certM x ≤ 10000000 := by unfold certM; omega
      have hq1 := fun (xs : List Seat) (A' : Option Addr) (c' : Nat) (W : World) (g1 : Seats W W.heap.size A' xs) (g2 : x.held W W.heap.size) (g3 : xs.length ≤ maxLen) => check_any xs A' c' W.heap.size x W g1 g2 (Nat.le_refl _) g3 hm
      have hq2 := fun (xs : List Seat) (A' : Option Addr) (c' : Nat) (W : World) (g1 : Seats W W.heap.size A' xs) (g2 : x.held W W.heap.size) (g3 : xs.length ≤ maxLen) => rcheck_any xs A' c' W.heap.size x W g1 g2 (Nat.le_refl _) g3 hm
      have hsd := fun W g1 g2 => seated_any l A c w.heap.size W g1 g2 hl4 hwide
      obtain ⟨c1, c2, c3, c4, c5, fs, fA, fc⟩ := x
      dsimp only [CertD.val, GuiltD.val] at *
      have hl4i : ¬ (4096 : Int) < (l.length : Int) := by omega
      have hf4i : ¬ (4096 : Int) < (fs.length : Int) := by omega
      have hBc : Blk ((w.alloc (.cells #[.int .i64 c1, .int .i64 c2, .int .i64 c3, .bool c4, .int .u64 c5, .slice fA fs.length fc] 54)).alloc (.cells #[.int .i64 a1, .int .i64 a2, .int .i64 a3, .bool a4, .int .u64 a5, .int .i64 a6, .int .i64 b1, .int .i64 b2, .int .i64 b3, .bool b4, .int .u64 b5, .int .i64 b6] 58)) w.heap.size 54 #[.int .i64 c1, .int .i64 c2, .int .i64 c3, .bool c4, .int .u64 c5, .slice fA fs.length fc] := (Blk.new _ _ _).alloc _
      have hBg : Blk ((w.alloc (.cells #[.int .i64 c1, .int .i64 c2, .int .i64 c3, .bool c4, .int .u64 c5, .slice fA fs.length fc] 54)).alloc (.cells #[.int .i64 a1, .int .i64 a2, .int .i64 a3, .bool a4, .int .u64 a5, .int .i64 a6, .int .i64 b1, .int .i64 b2, .int .i64 b3, .bool b4, .int .u64 b5, .int .i64 b6] 58)) (w.heap.size + 1) 58 #[.int .i64 a1, .int .i64 a2, .int .i64 a3, .bool a4, .int .u64 a5, .int .i64 a6, .int .i64 b1, .int .i64 b2, .int .i64 b3, .bool b4, .int .u64 b5, .int .i64 b6] := by
        have hN := Blk.new (w.alloc (.cells #[.int .i64 c1, .int .i64 c2, .int .i64 c3, .bool c4, .int .u64 c5, .slice fA fs.length fc] 54)) 58 #[.int .i64 a1, .int .i64 a2, .int .i64 a3, .bool a4, .int .u64 a5, .int .i64 a6, .int .i64 b1, .int .i64 b2, .int .i64 b3, .bool b4, .int .u64 b5, .int .i64 b6]
        simpa using hN
      have hbel : Below w.heap.size w ((w.alloc (.cells #[.int .i64 c1, .int .i64 c2, .int .i64 c3, .bool c4, .int .u64 c5, .slice fA fs.length fc] 54)).alloc (.cells #[.int .i64 a1, .int .i64 a2, .int .i64 a3, .bool a4, .int .u64 a5, .int .i64 a6, .int .i64 b1, .int .i64 b2, .int .i64 b3, .bool b4, .int .u64 b5, .int .i64 b6] 58)) := ((Below.refl _ _).alloc (Nat.le_refl _) _).alloc (by simp) _
      go_enter Try.func6, Try.ntmps6
      go_wp2_with fail
      refine (hsd _ (Rd.below h hbel) hbel.size).mono ?_
      rintro e w1 ⟨v, rfl, hown, hb1⟩
      obtain ⟨A1, c1', rfl⟩ := own_shape hown
      have hT : Vc w w.heap.size (seatedS l) A1 ⟨c1, c2, c3, c4, c5, fs, fA, fc⟩ #[.int .i64 c1, .int .i64 c2, .int .i64 c3, .bool c4, .int .u64 c5, .slice fA fs.length fc] #[.int .i64 a1, .int .i64 a2, .int .i64 a3, .bool a4, .int .u64 a5, .int .i64 a6, .int .i64 b1, .int .i64 b2, .int .i64 b3, .bool b4, .int .u64 b5, .int .i64 b6] w1 :=
        ⟨hBc.below hb1 hBc.lt, hBg.below hb1 hBg.lt, Rd.of_own hown, ((hx.below (hbel.trans (hb1.mono hbel.size)))).more (hbel.trans (hb1.mono hbel.size)).size, hbel.trans (hb1.mono hbel.size)⟩
      have hsl : (seatedS l).length ≤ maxLen := by have := (seatedS_ok l).most; simp [maxLen]; omega
      generalize seatedS l = xs at *
      generalize hck : checkS xs ⟨c1, c2, c3, c4, c5, fs, fA, fc⟩ = er at *
      have z1 := fun z : VcW w w.heap.size xs A1 ⟨c1, c2, c3, c4, c5, fs, fA, fc⟩ #[.int .i64 c1, .int .i64 c2, .int .i64 c3, .bool c4, .int .u64 c5, .slice fA fs.length fc] #[.int .i64 a1, .int .i64 a2, .int .i64 a3, .bool a4, .int .u64 a5, .int .i64 a6, .int .i64 b1, .int .i64 b2, .int .i64 b3, .bool b4, .int .u64 b5, .int .i64 b6] => hq1 xs A1 c1' z.it z.two.seats z.two.held hsl
      have z2 := fun z : VcW w w.heap.size xs A1 ⟨c1, c2, c3, c4, c5, fs, fA, fc⟩ #[.int .i64 c1, .int .i64 c2, .int .i64 c3, .bool c4, .int .u64 c5, .slice fA fs.length fc] #[.int .i64 a1, .int .i64 a2, .int .i64 a3, .bool a4, .int .u64 a5, .int .i64 a6, .int .i64 b1, .int .i64 b2, .int .i64 b3, .bool b4, .int .u64 b5, .int .i64 b6] => hq2 xs A1 c1' z.it z.two.seats z.two.held hsl
      rw [hck] at z1 z2
      have e1 : (pp == pp) = true := by simp
      have e2 : (er == er) = true := by simp
      have e3 : decide (er = er) = true := by simp
      have zc0 : ∀ z : VcW w w.heap.size xs A1 ⟨c1, c2, c3, c4, c5, fs, fA, fc⟩ #[.int .i64 c1, .int .i64 c2, .int .i64 c3, .bool c4, .int .u64 c5, .slice fA fs.length fc] #[.int .i64 a1, .int .i64 a2, .int .i64 a3, .bool a4, .int .u64 a5, .int .i64 a6, .int .i64 b1, .int .i64 b2, .int .i64 b3, .bool b4, .int .u64 b5, .int .i64 b6], z.it.cell? ⟨w.heap.size, 0, none⟩ = some (.int .i64 c1) := fun z => (z.two.cb.cell 0).trans rfl
      have zc1 : ∀ z : VcW w w.heap.size xs A1 ⟨c1, c2, c3, c4, c5, fs, fA, fc⟩ #[.int .i64 c1, .int .i64 c2, .int .i64 c3, .bool c4, .int .u64 c5, .slice fA fs.length fc] #[.int .i64 a1, .int .i64 a2, .int .i64 a3, .bool a4, .int .u64 a5, .int .i64 a6, .int .i64 b1, .int .i64 b2, .int .i64 b3, .bool b4, .int .u64 b5, .int .i64 b6], z.it.cell? ⟨w.heap.size, 1, none⟩ = some (.int .i64 c2) := fun z => (z.two.cb.cell 1).trans rfl
      have zc2 : ∀ z : VcW w w.heap.size xs A1 ⟨c1, c2, c3, c4, c5, fs, fA, fc⟩ #[.int .i64 c1, .int .i64 c2, .int .i64 c3, .bool c4, .int .u64 c5, .slice fA fs.length fc] #[.int .i64 a1, .int .i64 a2, .int .i64 a3, .bool a4, .int .u64 a5, .int .i64 a6, .int .i64 b1, .int .i64 b2, .int .i64 b3, .bool b4, .int .u64 b5, .int .i64 b6], z.it.cell? ⟨w.heap.size, 2, none⟩ = some (.int .i64 c3) := fun z => (z.two.cb.cell 2).trans rfl
      have zc3 : ∀ z : VcW w w.heap.size xs A1 ⟨c1, c2, c3, c4, c5, fs, fA, fc⟩ #[.int .i64 c1, .int .i64 c2, .int .i64 c3, .bool c4, .int .u64 c5, .slice fA fs.length fc] #[.int .i64 a1, .int .i64 a2, .int .i64 a3, .bool a4, .int .u64 a5, .int .i64 a6, .int .i64 b1, .int .i64 b2, .int .i64 b3, .bool b4, .int .u64 b5, .int .i64 b6], z.it.cell? ⟨w.heap.size, 3, none⟩ = some (.bool c4) := fun z => (z.two.cb.cell 3).trans rfl
      have zc4 : ∀ z : VcW w w.heap.size xs A1 ⟨c1, c2, c3, c4, c5, fs, fA, fc⟩ #[.int .i64 c1, .int .i64 c2, .int .i64 c3, .bool c4, .int .u64 c5, .slice fA fs.length fc] #[.int .i64 a1, .int .i64 a2, .int .i64 a3, .bool a4, .int .u64 a5, .int .i64 a6, .int .i64 b1, .int .i64 b2, .int .i64 b3, .bool b4, .int .u64 b5, .int .i64 b6], z.it.cell? ⟨w.heap.size, 4, none⟩ = some (.int .u64 c5) := fun z => (z.two.cb.cell 4).trans rfl
      have zc5 : ∀ z : VcW w w.heap.size xs A1 ⟨c1, c2, c3, c4, c5, fs, fA, fc⟩ #[.int .i64 c1, .int .i64 c2, .int .i64 c3, .bool c4, .int .u64 c5, .slice fA fs.length fc] #[.int .i64 a1, .int .i64 a2, .int .i64 a3, .bool a4, .int .u64 a5, .int .i64 a6, .int .i64 b1, .int .i64 b2, .int .i64 b3, .bool b4, .int .u64 b5, .int .i64 b6], z.it.cell? ⟨w.heap.size, 5, none⟩ = some (.slice fA fs.length fc) := fun z => (z.two.cb.cell 5).trans rfl
      have zg0 : ∀ z : VcW w w.heap.size xs A1 ⟨c1, c2, c3, c4, c5, fs, fA, fc⟩ #[.int .i64 c1, .int .i64 c2, .int .i64 c3, .bool c4, .int .u64 c5, .slice fA fs.length fc] #[.int .i64 a1, .int .i64 a2, .int .i64 a3, .bool a4, .int .u64 a5, .int .i64 a6, .int .i64 b1, .int .i64 b2, .int .i64 b3, .bool b4, .int .u64 b5, .int .i64 b6], z.it.cell? ⟨w.heap.size + 1, 0, none⟩ = some (.int .i64 a1) := fun z => (z.two.gb.cell 0).trans rfl
      have zg1 : ∀ z : VcW w w.heap.size xs A1 ⟨c1, c2, c3, c4, c5, fs, fA, fc⟩ #[.int .i64 c1, .int .i64 c2, .int .i64 c3, .bool c4, .int .u64 c5, .slice fA fs.length fc] #[.int .i64 a1, .int .i64 a2, .int .i64 a3, .bool a4, .int .u64 a5, .int .i64 a6, .int .i64 b1, .int .i64 b2, .int .i64 b3, .bool b4, .int .u64 b5, .int .i64 b6], z.it.cell? ⟨w.heap.size + 1, 1, none⟩ = some (.int .i64 a2) := fun z => (z.two.gb.cell 1).trans rfl
      have zg2 : ∀ z : VcW w w.heap.size xs A1 ⟨c1, c2, c3, c4, c5, fs, fA, fc⟩ #[.int .i64 c1, .int .i64 c2, .int .i64 c3, .bool c4, .int .u64 c5, .slice fA fs.length fc] #[.int .i64 a1, .int .i64 a2, .int .i64 a3, .bool a4, .int .u64 a5, .int .i64 a6, .int .i64 b1, .int .i64 b2, .int .i64 b3, .bool b4, .int .u64 b5, .int .i64 b6], z.it.cell? ⟨w.heap.size + 1, 2, none⟩ = some (.int .i64 a3) := fun z => (z.two.gb.cell 2).trans rfl
      have zg3 : ∀ z : VcW w w.heap.size xs A1 ⟨c1, c2, c3, c4, c5, fs, fA, fc⟩ #[.int .i64 c1, .int .i64 c2, .int .i64 c3, .bool c4, .int .u64 c5, .slice fA fs.length fc] #[.int .i64 a1, .int .i64 a2, .int .i64 a3, .bool a4, .int .u64 a5, .int .i64 a6, .int .i64 b1, .int .i64 b2, .int .i64 b3, .bool b4, .int .u64 b5, .int .i64 b6], z.it.cell? ⟨w.heap.size + 1, 3, none⟩ = some (.bool a4) := fun z => (z.two.gb.cell 3).trans rfl
      have zg4 : ∀ z : VcW w w.heap.size xs A1 ⟨c1, c2, c3, c4, c5, fs, fA, fc⟩ #[.int .i64 c1, .int .i64 c2, .int .i64 c3, .bool c4, .int .u64 c5, .slice fA fs.length fc] #[.int .i64 a1, .int .i64 a2, .int .i64 a3, .bool a4, .int .u64 a5, .int .i64 a6, .int .i64 b1, .int .i64 b2, .int .i64 b3, .bool b4, .int .u64 b5, .int .i64 b6], z.it.cell? ⟨w.heap.size + 1, 4, none⟩ = some (.int .u64 a5) := fun z => (z.two.gb.cell 4).trans rfl
      have zg5 : ∀ z : VcW w w.heap.size xs A1 ⟨c1, c2, c3, c4, c5, fs, fA, fc⟩ #[.int .i64 c1, .int .i64 c2, .int .i64 c3, .bool c4, .int .u64 c5, .slice fA fs.length fc] #[.int .i64 a1, .int .i64 a2, .int .i64 a3, .bool a4, .int .u64 a5, .int .i64 a6, .int .i64 b1, .int .i64 b2, .int .i64 b3, .bool b4, .int .u64 b5, .int .i64 b6], z.it.cell? ⟨w.heap.size + 1, 5, none⟩ = some (.int .i64 a6) := fun z => (z.two.gb.cell 5).trans rfl
      have zg6 : ∀ z : VcW w w.heap.size xs A1 ⟨c1, c2, c3, c4, c5, fs, fA, fc⟩ #[.int .i64 c1, .int .i64 c2, .int .i64 c3, .bool c4, .int .u64 c5, .slice fA fs.length fc] #[.int .i64 a1, .int .i64 a2, .int .i64 a3, .bool a4, .int .u64 a5, .int .i64 a6, .int .i64 b1, .int .i64 b2, .int .i64 b3, .bool b4, .int .u64 b5, .int .i64 b6], z.it.cell? ⟨w.heap.size + 1, 6, none⟩ = some (.int .i64 b1) := fun z => (z.two.gb.cell 6).trans rfl
      have zg7 : ∀ z : VcW w w.heap.size xs A1 ⟨c1, c2, c3, c4, c5, fs, fA, fc⟩ #[.int .i64 c1, .int .i64 c2, .int .i64 c3, .bool c4, .int .u64 c5, .slice fA fs.length fc] #[.int .i64 a1, .int .i64 a2, .int .i64 a3, .bool a4, .int .u64 a5, .int .i64 a6, .int .i64 b1, .int .i64 b2, .int .i64 b3, .bool b4, .int .u64 b5, .int .i64 b6], z.it.cell? ⟨w.heap.size + 1, 7, none⟩ = some (.int .i64 b2) := fun z => (z.two.gb.cell 7).trans rfl
      have zg8 : ∀ z : VcW w w.heap.size xs A1 ⟨c1, c2, c3, c4, c5, fs, fA, fc⟩ #[.int .i64 c1, .int .i64 c2, .int .i64 c3, .bool c4, .int .u64 c5, .slice fA fs.length fc] #[.int .i64 a1, .int .i64 a2, .int .i64 a3, .bool a4, .int .u64 a5, .int .i64 a6, .int .i64 b1, .int .i64 b2, .int .i64 b3, .bool b4, .int .u64 b5, .int .i64 b6], z.it.cell? ⟨w.heap.size + 1, 8, none⟩ = some (.int .i64 b3) := fun z => (z.two.gb.cell 8).trans rfl
      have zg9 : ∀ z : VcW w w.heap.size xs A1 ⟨c1, c2, c3, c4, c5, fs, fA, fc⟩ #[.int .i64 c1, .int .i64 c2, .int .i64 c3, .bool c4, .int .u64 c5, .slice fA fs.length fc] #[.int .i64 a1, .int .i64 a2, .int .i64 a3, .bool a4, .int .u64 a5, .int .i64 a6, .int .i64 b1, .int .i64 b2, .int .i64 b3, .bool b4, .int .u64 b5, .int .i64 b6], z.it.cell? ⟨w.heap.size + 1, 9, none⟩ = some (.bool b4) := fun z => (z.two.gb.cell 9).trans rfl
      have zg10 : ∀ z : VcW w w.heap.size xs A1 ⟨c1, c2, c3, c4, c5, fs, fA, fc⟩ #[.int .i64 c1, .int .i64 c2, .int .i64 c3, .bool c4, .int .u64 c5, .slice fA fs.length fc] #[.int .i64 a1, .int .i64 a2, .int .i64 a3, .bool a4, .int .u64 a5, .int .i64 a6, .int .i64 b1, .int .i64 b2, .int .i64 b3, .bool b4, .int .u64 b5, .int .i64 b6], z.it.cell? ⟨w.heap.size + 1, 10, none⟩ = some (.int .u64 b5) := fun z => (z.two.gb.cell 10).trans rfl
      have zg11 : ∀ z : VcW w w.heap.size xs A1 ⟨c1, c2, c3, c4, c5, fs, fA, fc⟩ #[.int .i64 c1, .int .i64 c2, .int .i64 c3, .bool c4, .int .u64 c5, .slice fA fs.length fc] #[.int .i64 a1, .int .i64 a2, .int .i64 a3, .bool a4, .int .u64 a5, .int .i64 a6, .int .i64 b1, .int .i64 b2, .int .i64 b3, .bool b4, .int .u64 b5, .int .i64 b6], z.it.cell? ⟨w.heap.size + 1, 11, none⟩ = some (.int .i64 b6) := fun z => (z.two.gb.cell 11).trans rfl
      have inst : Nonempty (VcW w w.heap.size xs A1 ⟨c1, c2, c3, c4, c5, fs, fA, fc⟩ #[.int .i64 c1, .int .i64 c2, .int .i64 c3, .bool c4, .int .u64 c5, .slice fA fs.length fc] #[.int .i64 a1, .int .i64 a2, .int .i64 a3, .bool a4, .int .u64 a5, .int .i64 a6, .int .i64 b1, .int .i64 b2, .int .i64 b3, .bool b4, .int .u64 b5, .int .i64 b6]) := ⟨⟨_, hT⟩⟩
      clear hown hb1 hbel hBc hBg hx h hwide hsd hq1 hq2
      as_aux_lemma =>
      go_wp2_with fail
      as_aux_lemma =>
      refine wp_region_class (fun W => ∃ z : VcW w w.heap.size xs A1 ⟨c1, c2, c3, c4, c5, fs, fA, fc⟩ #[.int .i64 c1, .int .i64 c2, .int .i64 c3, .bool c4, .int .u64 c5, .slice fA fs.length fc] #[.int .i64 a1, .int .i64 a2, .int .i64 a3, .bool a4, .int .u64 a5, .int .i64 a6, .int .i64 b1, .int .i64 b2, .int .i64 b3, .bool b4, .int .u64 b5, .int .i64 b6], W = z.it) (by kernel_rfl) (by kernel_rfl) ⟨⟨_, hT.drew⟩, rfl⟩ ?_
      clear hT
      as_aux_lemma =>
      (go_big_quiet_step (first
        | (rename_i z; with_reducible refine (hp1 _).mono ?_; rintro e w2 ⟨rfl, hb2⟩; exact ⟨rfl, ⟨w2, z.two.below hb2⟩, rfl⟩)
        | (rename_i z; with_reducible refine (hp2 _).mono ?_; rintro e w2 ⟨rfl, hb2⟩; exact ⟨rfl, ⟨w2, z.two.below hb2⟩, rfl⟩)
        | (rename_i z; with_reducible refine (z1 z).mono ?_; rintro e w2 ⟨rfl, hb2⟩; exact ⟨rfl, ⟨w2, z.two.below hb2⟩, rfl⟩)
        | (rename_i z; with_reducible refine (z2 z).mono ?_; rintro e w2 ⟨rfl, hb2⟩; exact ⟨rfl, ⟨w2, z.two.below hb2⟩, rfl⟩)))
      (go_big_quiet_step (first
        | (rename_i z; with_reducible refine (hp1 _).mono ?_; rintro e w2 ⟨rfl, hb2⟩; exact ⟨rfl, ⟨w2, z.two.below hb2⟩, rfl⟩)
        | (rename_i z; with_reducible refine (hp2 _).mono ?_; rintro e w2 ⟨rfl, hb2⟩; exact ⟨rfl, ⟨w2, z.two.below hb2⟩, rfl⟩)
        | (rename_i z; with_reducible refine (z1 z).mono ?_; rintro e w2 ⟨rfl, hb2⟩; exact ⟨rfl, ⟨w2, z.two.below hb2⟩, rfl⟩)
        | (rename_i z; with_reducible refine (z2 z).mono ?_; rintro e w2 ⟨rfl, hb2⟩; exact ⟨rfl, ⟨w2, z.two.below hb2⟩, rfl⟩)))
      (go_big_quiet_step (first
        | (rename_i z; with_reducible refine (hp1 _).mono ?_; rintro e w2 ⟨rfl, hb2⟩; exact ⟨rfl, ⟨w2, z.two.below hb2⟩, rfl⟩)
        | (rename_i z; with_reducible refine (hp2 _).mono ?_; rintro e w2 ⟨rfl, hb2⟩; exact ⟨rfl, ⟨w2, z.two.below hb2⟩, rfl⟩)
        | (rename_i z; with_reducible refine (z1 z).mono ?_; rintro e w2 ⟨rfl, hb2⟩; exact ⟨rfl, ⟨w2, z.two.below hb2⟩, rfl⟩)
        | (rename_i z; with_reducible refine (z2 z).mono ?_; rintro e w2 ⟨rfl, hb2⟩; exact ⟨rfl, ⟨w2, z.two.below hb2⟩, rfl⟩)))
      as_aux_lemma =>
      repeat (go_big_quiet_step (first
        | (rename_i z; with_reducible refine (hp1 _).mono ?_; rintro e w2 ⟨rfl, hb2⟩; exact ⟨rfl, ⟨w2, z.two.below hb2⟩, rfl⟩)
        | (rename_i z; with_reducible refine (hp2 _).mono ?_; rintro e w2 ⟨rfl, hb2⟩; exact ⟨rfl, ⟨w2, z.two.below hb2⟩, rfl⟩)
        | (rename_i z; with_reducible refine (z1 z).mono ?_; rintro e w2 ⟨rfl, hb2⟩; exact ⟨rfl, ⟨w2, z.two.below hb2⟩, rfl⟩)
        | (rename_i z; with_reducible refine (z2 z).mono ?_; rintro e w2 ⟨rfl, hb2⟩; exact ⟨rfl, ⟨w2, z.two.below hb2⟩, rfl⟩)))
      as_aux_lemma =>
      refine wpQuiet_nil ?_
      rintro w9 ⟨z, rfl⟩
      go_wp2_with fail
      go_ret
      exact ⟨ret_bool (by simp), z.two.low⟩
    · obtain ⟨c1, c2, c3, c4, c5, fs, fA, fc⟩ := x
      dsimp only [CertD.val, GuiltD.val] at *
      have hl4i : ¬ (4096 : Int) < (l.length : Int) := by omega
      have hf4i : (4096 : Int) < (fs.length : Int) := by omega
      go_enter Try.func6, Try.ntmps6
      go_wp2_with fail
      go_ret
      exact ⟨rfl, ((Below.refl _ _).alloc (Nat.le_refl _) _).alloc (by simp) _⟩
  · obtain ⟨c1, c2, c3, c4, c5, fs, fA, fc⟩ := x
    dsimp only [CertD.val, GuiltD.val] at *
    have hl4i : (4096 : Int) < (l.length : Int) := by omega
    go_enter Try.func6, Try.ntmps6
    go_wp2_with fail
    go_ret
    exact ⟨rfl, ((Below.refl _ _).alloc (Nat.le_refl _) _).alloc (by simp) _⟩

namespace voteChecks
open Go.ChangeShapes Go.WideShapes Go.ChangeAt Go.RowKit
set_option linter.unusedVariables false
set_option maxRecDepth 100000 in
theorem walk {H : Type} (enc : TypeId × Value → H) : LawWalk enc Try.prog Try.f6 6 := by
  intro W args ds p hA hval hlt hfz
  rw [Try.params6] at hA hval
  obtain ⟨v0, vs0, d0, ds0, p0, q0, hargs, rfl, rfl, h0, r0⟩ := trodAll_cons hA
  obtain ⟨v1, vs1, d1, ds1, p1, q1, rfl, rfl, rfl, h1, r1⟩ := trodAll_cons r0
  obtain ⟨v2, vs2, d2, ds2, p2, q2, rfl, rfl, rfl, h2, r2⟩ := trodAll_cons r1
  obtain ⟨rfl, rfl, rfl⟩ := trodAll_nil r2
  obtain rfl : args = #[v0, v1, v2] := by cases args; simp_all
  obtain ⟨A0, c0, l0, rfl, lc0, cm0, hl0, hw0⟩ := open_seats (hval 0 _ v0 rfl rfl) h0
  obtain ⟨x1, rfl, hx1, hm1⟩ := openB_cert (hval 1 _ v1 rfl rfl) h1
  obtain ⟨x2, rfl, hx2, hm2⟩ := openB_guilt (hval 2 _ v2 rfl rfl) h2
  exact voteChecks_walk l0 A0 c0 x1 x2 hx2.2 W hl0 (by omega) hw0 hx1.2
set_option maxRecDepth 100000 in
theorem shape (H : Type) (ds : List (DataW H)) (h : ds.length = (Try.f6).params.toList.length) : Rows.voteChecksSpec.fn H (ds ++ []) = { results := [DataW.lit (Lit.bool true)], args := ds } := match ds, h with | [_, _, _], _ => rfl
set_option maxRecDepth 100000 in
theorem wit (os : Os) (H : Type) (enc : TypeId × Value → H) : ∃ (w : World) (tape : Tape) (i : Input), w.os = os ∧ (w.forCall tape i).Shaped Try.prog ∧ i.vars = [] ∧ Input.okWide Try.prog (w.forCall tape i) .any w.heap.size 6 i ∧ ChangeSpec.pre6 enc Try.prog Try.f6 Rows.voteChecksSpec [] false (w.forCall tape i).memory i.args ∧ ({ } : Assume).holds Try.prog (lone (Frame.enter Try.prog 6 i.args .normal) [] (w.forCall tape i)) :=
  ChangeSpec.witness6 (enc := enc) (C := Try.checked) false ⟨#[], #[.slice none 0 0, .agg #[.int .i64 0, .int .i64 0, .int .i64 0, .bool false, .int .u64 0, .slice none 0 0], .agg #[.int .i64 0, .int .i64 0, .int .i64 0, .bool false, .int .u64 0, .int .i64 0, .int .i64 0, .int .i64 0, .int .i64 0, .bool false, .int .u64 0, .int .i64 0]], []⟩ 8 (by kernel_rfl) (by kernel_rfl) (by kernel_rfl) (by kernel_rfl)
set_option maxRecDepth 100000 in
theorem lifted (os : Os) (started : os.Started) (H : Type) (enc : TypeId × Value → H) : ReturnsInHanded {} Try.checked os 6 .any (ChangeSpec.pre6 enc Try.prog Try.f6 Rows.voteChecksSpec [] false) (ChangeSpec.post enc Try.prog Try.f6 Rows.voteChecksSpec false true false false) :=
  law_lift (C := Try.checked) (s := Rows.voteChecksSpec) (by kernel_rfl) started (by kernel_rfl) Try.func6 (by kernel_rfl) (by kernel_rfl) rfl rfl Try.underlying4 (shape H) (wit os H enc) (walk enc)
set_option maxRecDepth 100000 in
theorem over : Rows.voteChecksRow.holds Try.pinned (OpenSpec.ofChange Rows.voteChecksSpec) :=
  OpenClaim.holds_of_wide 6 Try.f6 rfl rfl rfl rfl rfl rfl rfl ⟨rfl, rfl, rfl, rfl, rfl⟩ rfl rfl rfl rfl rfl (by kernel_rfl) Try.func6 (by kernel_rfl)
    (of_decide_eq_true (by kernel_rfl)) (by unfold Func.isWrapper; first | (rw [if_pos (by decide +kernel)]; kernel_rfl) | (rw [if_neg (by decide +kernel)]; exact ⟨rfl, rfl⟩))
    (fun os started H enc _ => lifted os started H enc)
end voteChecks
/-- the statement -/
theorem voteChecks_holds : Rows.VoteChecksSaid := voteChecks.over
#print axioms voteChecks_holds
end Go.Proofs.Ytjmkcndjjfokiaa
