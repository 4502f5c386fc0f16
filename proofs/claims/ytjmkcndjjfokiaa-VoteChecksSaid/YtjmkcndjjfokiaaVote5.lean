/- What proves guilt: package vote's Proves. -/
import Derived.Test.YtjmkcndjjfokiaaVote4
import Derived.BigRegion
import Derived.Deep.RegionHeld3
namespace Go.Proofs.Ytjmkcndjjfokiaa
open Go.RowKit
theorem wp_region_class {P : Program} {id : Nat} {Q : Exit → Act → World → Prop} {a : Act} {w : World} (C : World → Prop) {l : List Oper} (hm : P.follows .mixedOrders = true) (hB : Region.lexB .any l.toArray = true) (hC : C w.drew)
    (h : wpQuiet P l.toArray C (fun a' => ∀ w', C w' → Q .normal a' w') l a) : (Code.region id l.toArray true).wp P Q a w :=
  wp_region_quiet (C := C) hm hB hC (by simpa using h)
structure Two (w : World) (p q : Nat) (A B : Array Value) (W : World) : Prop where
  fst : Blk W p 56 A
  snd : Blk W q 56 B
  low : Below w.heap.size w W
structure TwoW (w : World) (p q : Nat) (A B : Array Value) where
  it : World
  two : Two w p q A B it
theorem Two.drew {w : World} {p q : Nat} {A B : Array Value} {W : World} (h : Two w p q A B W) : Two w p q A B W.drew :=
  ⟨Blk.drew h.fst, Blk.drew h.snd, h.low.drew⟩
theorem Two.below {w : World} {p q : Nat} {A B : Array Value} {W W' : World} (h : Two w p q A B W) (hb : Below W.heap.size W W') : Two w p q A B W' :=
  ⟨h.fst.below hb h.fst.lt, h.snd.below hb h.snd.lt, h.low.trans (hb.mono h.low.size)⟩
set_option maxRecDepth 100000 in
set_option maxHeartbeats 4000000 in
theorem place_any (x : VoteD) (w : World) : Calls Try.prog 95 #[x.val] w fun e w' => e = .returned (.agg #[.int .i64 x.h, .int .i64 x.r, .int .i64 x.s]) ∧ Below w.heap.size w w' := by
  obtain ⟨a1, a2, a3, a4, a5, a6⟩ := x
  dsimp only [VoteD.val]
  go_enter Try.func95, Try.ntmps95
  go_wp2_with fail
  refine bodyPost_ret (v := .agg #[.int .i64 a1, .int .i64 a2, .int .i64 a3]) (by simp [results, Try.results95, go_sem]) rfl ⟨rfl, ((Below.refl _ _).alloc (Nat.le_refl _) _).alloc (by simp) _⟩
theorem Two.upon {w : World} {p q : Nat} {A B : Array Value} {W W' : World} (hb : Below W.heap.size W W') (h : Two w p q A B W) : Two w p q A B W' := h.below hb
set_option maxRecDepth 100000 in
set_option maxHeartbeats 4000000 in
theorem proves_any (x : GuiltD) (hx : x.ok) (w : World) :
    Calls Try.prog 32 #[x.val] w fun e w' => e = .returned (.bool (provesS x)) ∧ Below w.heap.size w w' := by
  have hP := fun W => put_guilt x hx W
  have hC : Hid (provesS x = (decide ((Out.empty.guilt x).re = 0) && (x.a.h == x.b.h) && (x.a.r == x.b.r) && (x.a.s == x.b.s) && (x.a.f == x.b.f) && !sameVote x.a x.b)) := rfl
  generalize (Out.empty.guilt x).re = er at *
  generalize (Out.empty.guilt x).rs = rs at *
  obtain ⟨⟨a1, a2, a3, a4, a5, a6⟩, ⟨b1, b2, b3, b4, b5, b6⟩⟩ := x
  dsimp only [GuiltD.val, sameVote] at *
  go_enter Try.func32, Try.ntmps32
  go_wp2_with fail
  refine (hP _).mono ?_
  rintro e w1 ⟨rfl, hb1⟩
  have hsz1 := hb1.size
  simp at hsz1
  have hBx := (Blk.new w 58 #[.int .i64 a1, .int .i64 a2, .int .i64 a3, .bool a4, .int .u64 a5, .int .i64 a6, .int .i64 b1, .int .i64 b2, .int .i64 b3, .bool b4, .int .u64 b5, .int .i64 b6]).below hb1 (by simp)
  have hbel1 : Below w.heap.size w w1 := ((Below.refl _ _).alloc (Nat.le_refl _) _).trans (hb1.mono (by simp))
  have c0 := (hBx.cell 0).trans (show _ = some (Value.int .i64 a1) from rfl)
  have c1 := (hBx.cell 1).trans (show _ = some (Value.int .i64 a2) from rfl)
  have c2 := (hBx.cell 2).trans (show _ = some (Value.int .i64 a3) from rfl)
  have c3 := (hBx.cell 3).trans (show _ = some (Value.bool a4) from rfl)
  have c4 := (hBx.cell 4).trans (show _ = some (Value.int .u64 a5) from rfl)
  have c5 := (hBx.cell 5).trans (show _ = some (Value.int .i64 a6) from rfl)
  have c6 := (hBx.cell 6).trans (show _ = some (Value.int .i64 b1) from rfl)
  have c7 := (hBx.cell 7).trans (show _ = some (Value.int .i64 b2) from rfl)
  have c8 := (hBx.cell 8).trans (show _ = some (Value.int .i64 b3) from rfl)
  have c9 := (hBx.cell 9).trans (show _ = some (Value.bool b4) from rfl)
  have c10 := (hBx.cell 10).trans (show _ = some (Value.int .u64 b5) from rfl)
  have c11 := (hBx.cell 11).trans (show _ = some (Value.int .i64 b6) from rfl)
  have e0 := fun o => hBx.cell_a 0 (Value.int .i64 a1) rfl o
  have e1 := fun o => hBx.cell_a 1 (Value.int .i64 a2) rfl o
  have e2 := fun o => hBx.cell_a 2 (Value.int .i64 a3) rfl o
  have e3 := fun o => hBx.cell_a 3 (Value.bool a4) rfl o
  have e4 := fun o => hBx.cell_a 4 (Value.int .u64 a5) rfl o
  have e5 := fun o => hBx.cell_a 5 (Value.int .i64 a6) rfl o
  have e6 := fun o => hBx.cell_a 6 (Value.int .i64 b1) rfl o
  have e7 := fun o => hBx.cell_a 7 (Value.int .i64 b2) rfl o
  have e8 := fun o => hBx.cell_a 8 (Value.int .i64 b3) rfl o
  have e9 := fun o => hBx.cell_a 9 (Value.bool b4) rfl o
  have e10 := fun o => hBx.cell_a 10 (Value.int .u64 b5) rfl o
  have e11 := fun o => hBx.cell_a 11 (Value.int .i64 b6) rfl o
  have ee0 := fun o o2 => (hBx.alloc o).cell_a 0 (Value.int .i64 a1) rfl o2
  have ee1 := fun o o2 => (hBx.alloc o).cell_a 1 (Value.int .i64 a2) rfl o2
  have ee2 := fun o o2 => (hBx.alloc o).cell_a 2 (Value.int .i64 a3) rfl o2
  have ee3 := fun o o2 => (hBx.alloc o).cell_a 3 (Value.bool a4) rfl o2
  have ee4 := fun o o2 => (hBx.alloc o).cell_a 4 (Value.int .u64 a5) rfl o2
  have ee5 := fun o o2 => (hBx.alloc o).cell_a 5 (Value.int .i64 a6) rfl o2
  have ee6 := fun o o2 => (hBx.alloc o).cell_a 6 (Value.int .i64 b1) rfl o2
  have ee7 := fun o o2 => (hBx.alloc o).cell_a 7 (Value.int .i64 b2) rfl o2
  have ee8 := fun o o2 => (hBx.alloc o).cell_a 8 (Value.int .i64 b3) rfl o2
  have ee9 := fun o o2 => (hBx.alloc o).cell_a 9 (Value.bool b4) rfl o2
  have ee10 := fun o o2 => (hBx.alloc o).cell_a 10 (Value.int .u64 b5) rfl o2
  have ee11 := fun o o2 => (hBx.alloc o).cell_a 11 (Value.int .i64 b6) rfl o2
  go_wp2_with fail
  · go_ret
    exact ⟨ret_bool (by rw [hC.out]; have : ¬ er = 0 := by simp_all
                        simp [this]), hbel1⟩
  have her : er = 0 := by simp_all
  go_cut [5, 6] (fun p q wc => ∃ P Q : Nat, p = .pointer (some ⟨P, 0, none⟩) ∧ q = .pointer (some ⟨Q, 0, none⟩) ∧ Two w P Q #[.int .i64 a1, .int .i64 a2, .int .i64 a3, .bool a4, .int .u64 a5, .int .i64 a6] #[.int .i64 b1, .int .i64 b2, .int .i64 b3, .bool b4, .int .u64 b5, .int .i64 b6] wc)
  case first =>
    go_region
    all_goals
      go_wp2_with fail
      go_meet
      first
        | exact ⟨w1.heap.size, w1.heap.size + 1, rfl, rfl, ⟨(Blk.drew ((Blk.new w1 _ _).alloc _)), Blk.drew (by simpa using Blk.new (w1.alloc (.cells #[.int .i64 a1, .int .i64 a2, .int .i64 a3, .bool a4, .int .u64 a5, .int .i64 a6] 56)) 56 _), ((hbel1.alloc (by omega) _).alloc (by simp; omega) _).drew⟩⟩
        | exact ⟨w1.heap.size + 1, w1.heap.size, rfl, rfl, ⟨Blk.drew (by simpa using Blk.new (w1.alloc (.cells #[.int .i64 b1, .int .i64 b2, .int .i64 b3, .bool b4, .int .u64 b5, .int .i64 b6] 56)) 56 _), Blk.drew ((Blk.new w1 _ _).alloc _), ((hbel1.alloc (by omega) _).alloc (by simp; omega) _).drew⟩⟩
  case rest =>
    obtain ⟨P, Q, rfl, rfl, hT⟩ := hcut
    have zP0 : ∀ z : TwoW w P Q #[.int .i64 a1, .int .i64 a2, .int .i64 a3, .bool a4, .int .u64 a5, .int .i64 a6] #[.int .i64 b1, .int .i64 b2, .int .i64 b3, .bool b4, .int .u64 b5, .int .i64 b6], z.it.cell? ⟨P, 0, none⟩ = some (.int .i64 a1) := fun z => (z.two.fst.cell 0).trans rfl
    have zP1 : ∀ z : TwoW w P Q #[.int .i64 a1, .int .i64 a2, .int .i64 a3, .bool a4, .int .u64 a5, .int .i64 a6] #[.int .i64 b1, .int .i64 b2, .int .i64 b3, .bool b4, .int .u64 b5, .int .i64 b6], z.it.cell? ⟨P, 1, none⟩ = some (.int .i64 a2) := fun z => (z.two.fst.cell 1).trans rfl
    have zP2 : ∀ z : TwoW w P Q #[.int .i64 a1, .int .i64 a2, .int .i64 a3, .bool a4, .int .u64 a5, .int .i64 a6] #[.int .i64 b1, .int .i64 b2, .int .i64 b3, .bool b4, .int .u64 b5, .int .i64 b6], z.it.cell? ⟨P, 2, none⟩ = some (.int .i64 a3) := fun z => (z.two.fst.cell 2).trans rfl
    have zP3 : ∀ z : TwoW w P Q #[.int .i64 a1, .int .i64 a2, .int .i64 a3, .bool a4, .int .u64 a5, .int .i64 a6] #[.int .i64 b1, .int .i64 b2, .int .i64 b3, .bool b4, .int .u64 b5, .int .i64 b6], z.it.cell? ⟨P, 3, none⟩ = some (.bool a4) := fun z => (z.two.fst.cell 3).trans rfl
    have zP4 : ∀ z : TwoW w P Q #[.int .i64 a1, .int .i64 a2, .int .i64 a3, .bool a4, .int .u64 a5, .int .i64 a6] #[.int .i64 b1, .int .i64 b2, .int .i64 b3, .bool b4, .int .u64 b5, .int .i64 b6], z.it.cell? ⟨P, 4, none⟩ = some (.int .u64 a5) := fun z => (z.two.fst.cell 4).trans rfl
    have zP5 : ∀ z : TwoW w P Q #[.int .i64 a1, .int .i64 a2, .int .i64 a3, .bool a4, .int .u64 a5, .int .i64 a6] #[.int .i64 b1, .int .i64 b2, .int .i64 b3, .bool b4, .int .u64 b5, .int .i64 b6], z.it.cell? ⟨P, 5, none⟩ = some (.int .i64 a6) := fun z => (z.two.fst.cell 5).trans rfl
    have zQ0 : ∀ z : TwoW w P Q #[.int .i64 a1, .int .i64 a2, .int .i64 a3, .bool a4, .int .u64 a5, .int .i64 a6] #[.int .i64 b1, .int .i64 b2, .int .i64 b3, .bool b4, .int .u64 b5, .int .i64 b6], z.it.cell? ⟨Q, 0, none⟩ = some (.int .i64 b1) := fun z => (z.two.snd.cell 0).trans rfl
    have zQ1 : ∀ z : TwoW w P Q #[.int .i64 a1, .int .i64 a2, .int .i64 a3, .bool a4, .int .u64 a5, .int .i64 a6] #[.int .i64 b1, .int .i64 b2, .int .i64 b3, .bool b4, .int .u64 b5, .int .i64 b6], z.it.cell? ⟨Q, 1, none⟩ = some (.int .i64 b2) := fun z => (z.two.snd.cell 1).trans rfl
    have zQ2 : ∀ z : TwoW w P Q #[.int .i64 a1, .int .i64 a2, .int .i64 a3, .bool a4, .int .u64 a5, .int .i64 a6] #[.int .i64 b1, .int .i64 b2, .int .i64 b3, .bool b4, .int .u64 b5, .int .i64 b6], z.it.cell? ⟨Q, 2, none⟩ = some (.int .i64 b3) := fun z => (z.two.snd.cell 2).trans rfl
    have zQ3 : ∀ z : TwoW w P Q #[.int .i64 a1, .int .i64 a2, .int .i64 a3, .bool a4, .int .u64 a5, .int .i64 a6] #[.int .i64 b1, .int .i64 b2, .int .i64 b3, .bool b4, .int .u64 b5, .int .i64 b6], z.it.cell? ⟨Q, 3, none⟩ = some (.bool b4) := fun z => (z.two.snd.cell 3).trans rfl
    have zQ4 : ∀ z : TwoW w P Q #[.int .i64 a1, .int .i64 a2, .int .i64 a3, .bool a4, .int .u64 a5, .int .i64 a6] #[.int .i64 b1, .int .i64 b2, .int .i64 b3, .bool b4, .int .u64 b5, .int .i64 b6], z.it.cell? ⟨Q, 4, none⟩ = some (.int .u64 b5) := fun z => (z.two.snd.cell 4).trans rfl
    have zQ5 : ∀ z : TwoW w P Q #[.int .i64 a1, .int .i64 a2, .int .i64 a3, .bool a4, .int .u64 a5, .int .i64 a6] #[.int .i64 b1, .int .i64 b2, .int .i64 b3, .bool b4, .int .u64 b5, .int .i64 b6], z.it.cell? ⟨Q, 5, none⟩ = some (.int .i64 b6) := fun z => (z.two.snd.cell 5).trans rfl
    have hpl := fun W => place_any ⟨a1, a2, a3, a4, a5, a6⟩ W
    have hpr := fun W => place_any ⟨b1, b2, b3, b4, b5, b6⟩ W
    dsimp only [VoteD.val] at hpl hpr
    by_cases h1 : a1 = b1
    · subst h1
      by_cases h2 : a2 = b2
      · subst h2
        by_cases h3 : a3 = b3
        · subst h3
          by_cases h6 : a6 = b6
          · subst h6
            by_cases h4 : a4 = b4
            · subst h4
              by_cases h5 : a5 = b5
              · subst h5
                go_wp2_with fail
                have inst : Nonempty (TwoW w P Q _ _) := ⟨⟨_, hT⟩⟩
                refine wp_region_class (fun W => ∃ z : TwoW w P Q _ _, W = z.it) (by kernel_rfl) (by kernel_rfl) ⟨⟨_, hT.drew⟩, rfl⟩ ?_
                repeat (go_big_quiet_step (first
                  | (rename_i z; with_reducible refine (hpl _).mono ?_; rintro e w2 ⟨rfl, hb2⟩; exact ⟨rfl, ⟨w2, z.two.below hb2⟩, rfl⟩)
                  | (rename_i z; with_reducible refine (hpr _).mono ?_; rintro e w2 ⟨rfl, hb2⟩; exact ⟨rfl, ⟨w2, z.two.below hb2⟩, rfl⟩)))
                refine wpQuiet_nil ?_
                rintro w9 ⟨z, rfl⟩
                go_wp2_with fail
                go_ret
                exact ⟨ret_bool (by rw [hC.out]; simp [*]), z.two.low⟩
              · have g5 : (a5 == b5) = false := by simpa using h5
                have d5 : decide (a5 = b5) = false := by simpa using h5
                go_wp2_with fail
                have inst : Nonempty (TwoW w P Q _ _) := ⟨⟨_, hT⟩⟩
                refine wp_region_class (fun W => ∃ z : TwoW w P Q _ _, W = z.it) (by kernel_rfl) (by kernel_rfl) ⟨⟨_, hT.drew⟩, rfl⟩ ?_
                repeat (go_big_quiet_step (first
                  | (rename_i z; with_reducible refine (hpl _).mono ?_; rintro e w2 ⟨rfl, hb2⟩; exact ⟨rfl, ⟨w2, z.two.below hb2⟩, rfl⟩)
                  | (rename_i z; with_reducible refine (hpr _).mono ?_; rintro e w2 ⟨rfl, hb2⟩; exact ⟨rfl, ⟨w2, z.two.below hb2⟩, rfl⟩)))
                refine wpQuiet_nil ?_
                rintro w9 ⟨z, rfl⟩
                go_wp2_with fail
                go_ret
                exact ⟨ret_bool (by rw [hC.out]; simp [*]), z.two.low⟩
            · have g4 : (a4 == b4) = false := by simpa using h4
              have d4 : decide (a4 = b4) = false := by simpa using h4
              go_wp2_with fail
              have inst : Nonempty (TwoW w P Q _ _) := ⟨⟨_, hT⟩⟩
              refine wp_region_class (fun W => ∃ z : TwoW w P Q _ _, W = z.it) (by kernel_rfl) (by kernel_rfl) ⟨⟨_, hT.drew⟩, rfl⟩ ?_
              repeat (go_big_quiet_step (first
                | (rename_i z; with_reducible refine (hpl _).mono ?_; rintro e w2 ⟨rfl, hb2⟩; exact ⟨rfl, ⟨w2, z.two.below hb2⟩, rfl⟩)
                | (rename_i z; with_reducible refine (hpr _).mono ?_; rintro e w2 ⟨rfl, hb2⟩; exact ⟨rfl, ⟨w2, z.two.below hb2⟩, rfl⟩)))
              refine wpQuiet_nil ?_
              rintro w9 ⟨z, rfl⟩
              go_wp2_with fail
              go_ret
              exact ⟨ret_bool (by rw [hC.out]; simp [*]), z.two.low⟩
          · have g6 : (a6 == b6) = false := by simpa using h6
            have d6 : decide (a6 = b6) = false := by simpa using h6
            go_wp2_with fail
            have inst : Nonempty (TwoW w P Q _ _) := ⟨⟨_, hT⟩⟩
            refine wp_region_class (fun W => ∃ z : TwoW w P Q _ _, W = z.it) (by kernel_rfl) (by kernel_rfl) ⟨⟨_, hT.drew⟩, rfl⟩ ?_
            repeat (go_big_quiet_step (first
              | (rename_i z; with_reducible refine (hpl _).mono ?_; rintro e w2 ⟨rfl, hb2⟩; exact ⟨rfl, ⟨w2, z.two.below hb2⟩, rfl⟩)
              | (rename_i z; with_reducible refine (hpr _).mono ?_; rintro e w2 ⟨rfl, hb2⟩; exact ⟨rfl, ⟨w2, z.two.below hb2⟩, rfl⟩)))
            refine wpQuiet_nil ?_
            rintro w9 ⟨z, rfl⟩
            go_wp2_with fail
            go_ret
            exact ⟨ret_bool (by rw [hC.out]; simp [*]), z.two.low⟩
        · have g3 : (a3 == b3) = false := by simpa using h3
          have d3 : decide (a3 = b3) = false := by simpa using h3
          go_wp2_with fail
          have inst : Nonempty (TwoW w P Q _ _) := ⟨⟨_, hT⟩⟩
          refine wp_region_class (fun W => ∃ z : TwoW w P Q _ _, W = z.it) (by kernel_rfl) (by kernel_rfl) ⟨⟨_, hT.drew⟩, rfl⟩ ?_
          repeat (go_big_quiet_step (first
            | (rename_i z; with_reducible refine (hpl _).mono ?_; rintro e w2 ⟨rfl, hb2⟩; exact ⟨rfl, ⟨w2, z.two.below hb2⟩, rfl⟩)
            | (rename_i z; with_reducible refine (hpr _).mono ?_; rintro e w2 ⟨rfl, hb2⟩; exact ⟨rfl, ⟨w2, z.two.below hb2⟩, rfl⟩)))
          refine wpQuiet_nil ?_
          rintro w9 ⟨z, rfl⟩
          go_wp2_with fail
          go_ret
          exact ⟨ret_bool (by rw [hC.out]; simp [*]), z.two.low⟩
      · have g2 : (a2 == b2) = false := by simpa using h2
        have d2 : decide (a2 = b2) = false := by simpa using h2
        go_wp2_with fail
        have inst : Nonempty (TwoW w P Q _ _) := ⟨⟨_, hT⟩⟩
        refine wp_region_class (fun W => ∃ z : TwoW w P Q _ _, W = z.it) (by kernel_rfl) (by kernel_rfl) ⟨⟨_, hT.drew⟩, rfl⟩ ?_
        repeat (go_big_quiet_step (first
          | (rename_i z; with_reducible refine (hpl _).mono ?_; rintro e w2 ⟨rfl, hb2⟩; exact ⟨rfl, ⟨w2, z.two.below hb2⟩, rfl⟩)
          | (rename_i z; with_reducible refine (hpr _).mono ?_; rintro e w2 ⟨rfl, hb2⟩; exact ⟨rfl, ⟨w2, z.two.below hb2⟩, rfl⟩)))
        refine wpQuiet_nil ?_
        rintro w9 ⟨z, rfl⟩
        go_wp2_with fail
        go_ret
        exact ⟨ret_bool (by rw [hC.out]; simp [*]), z.two.low⟩
    · have g1 : (a1 == b1) = false := by simpa using h1
      have d1 : decide (a1 = b1) = false := by simpa using h1
      go_wp2_with fail
      have inst : Nonempty (TwoW w P Q _ _) := ⟨⟨_, hT⟩⟩
      refine wp_region_class (fun W => ∃ z : TwoW w P Q _ _, W = z.it) (by kernel_rfl) (by kernel_rfl) ⟨⟨_, hT.drew⟩, rfl⟩ ?_
      repeat (go_big_quiet_step (first
        | (rename_i z; with_reducible refine (hpl _).mono ?_; rintro e w2 ⟨rfl, hb2⟩; exact ⟨rfl, ⟨w2, z.two.below hb2⟩, rfl⟩)
        | (rename_i z; with_reducible refine (hpr _).mono ?_; rintro e w2 ⟨rfl, hb2⟩; exact ⟨rfl, ⟨w2, z.two.below hb2⟩, rfl⟩)))
      refine wpQuiet_nil ?_
      rintro w9 ⟨z, rfl⟩
      go_wp2_with fail
      go_ret
      exact ⟨ret_bool (by rw [hC.out]; simp [*]), z.two.low⟩
end Go.Proofs.Ytjmkcndjjfokiaa
