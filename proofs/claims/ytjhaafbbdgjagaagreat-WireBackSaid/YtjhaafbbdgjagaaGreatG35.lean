/- Of the texts RecR, WrM, WrN, PutM. -/
import Derived.Test.YtjhaafbbdgjagaaGreatProg
import Derived.Test.YtjhaafbbdgjagaaGreatG34
import Derived.Test.YtjhaafbbdgjagaaGreatG25
import Derived.Test.YtjhaafbbdgjagaaGreatG24
set_option linter.unusedSimpArgs false
set_option linter.unusedVariables false
namespace Go.Proofs.YtjhaafbbdgjagaaGreat
open Go.RowKit
set_option maxRecDepth 100000 in
set_option maxHeartbeats 8000000 in
theorem rrecord_any (x : RecordD) (B : Nat) (w : World) (g : Nat) (S : Out) (h : Ref w g S) (hl : S.b.length + 40 * recordM x ≤ 58999999930000) (hx : x.held w B) (hB : B ≤ g) :
    Calls Tryz.prog 142 #[.pointer (some ⟨g, 0, none⟩), x.val] w fun e w' => e = .returned (.tuple #[]) ∧ Ref w' g (S.record x) ∧ Turned w w' g := by
  have hgt := h.lt
  obtain ⟨x1, ⟨v1, v2, v3, v4, v5, v6⟩, ⟨m1, m2, ⟨⟨h1, h2, h3, h4, h5, h6, h7, h8, h9⟩, ts, tA, tc, gs, gA, gc⟩, bl, bA, bc⟩, ⟨⟨c1, c2, c3, c4, c5, c6, c6a, c6c⟩, ⟨⟨k1, k2, k3, k4, k5, k6, k7, k8, k9⟩, us, uA, uc, qs, qA, qc⟩⟩⟩ := x
  simp only [recordM] at hl
  try dsimp only at hl
  obtain ⟨hxv, hxm, hxk⟩ := hx
  dsimp only at hxv hxm hxk
  dsimp only [RecordD.val]
  go_enter Tryz.func142, Tryz.ntmps142
  go_wp2_with fail
  generalize Value.agg #[.int .i64 x1, .int .i64 v1, .int .i64 v2, .int .i64 v3, .bool v4, .int .u64 v5, .int .i64 v6, .int .i64 m1, .int .i64 m2, .int .i64 h1, .int .i64 h2, .int .u64 h3, .int .u64 h4, .int .u64 h5, .int .u64 h6, .int .u64 h7, .int .u64 h8, .int .i64 h9, .slice tA ts.length tc, .slice gA gs.length gc, .slice bA bl.length bc, .int .i64 c1, .int .i64 c2, .int .i64 c3, .bool c4, .int .u64 c5, .slice c6a c6.length c6c, .int .i64 k1, .int .i64 k2, .int .u64 k3, .int .u64 k4, .int .u64 k5, .int .u64 k6, .int .u64 k7, .int .u64 k8, .int .i64 k9, .slice uA us.length uc, .slice qA qs.length qc] = V
  refine (rnumber_any _ _ g _ (h.alloc _) (by omega)).mono ?_
  rintro e w1 ⟨rfl, hW1, hC1⟩
  have hB1 := hC1.blk (Blk.new _ _ _) (by omega) (by decide)
  have hT1 := ((Turned.refl w g).alloc (by omega) _).trans hC1
  have hlt1 := hB1.lt
  have hgl1 := hW1.lt
  have ll1 := S.num_len x1
  generalize hS1 : S.num x1 = S1 at *
  have HS1 := Lib.hid hS1
  clear hS1
  have c1_0 := hB1.c 0 rfl
  have c1_1 := hB1.c 1 rfl
  have c1_2 := hB1.c 2 rfl
  have c1_3 := hB1.c 3 rfl
  have c1_4 := hB1.c 4 rfl
  have c1_5 := hB1.c 5 rfl
  have c1_6 := hB1.c 6 rfl
  have c1_7 := hB1.c 7 rfl
  have c1_8 := hB1.c 8 rfl
  have c1_9 := hB1.c 9 rfl
  have c1_10 := hB1.c 10 rfl
  have c1_11 := hB1.c 11 rfl
  have c1_12 := hB1.c 12 rfl
  have c1_13 := hB1.c 13 rfl
  have c1_14 := hB1.c 14 rfl
  have c1_15 := hB1.c 15 rfl
  have c1_16 := hB1.c 16 rfl
  have c1_17 := hB1.c 17 rfl
  have c1_18 := hB1.c 18 rfl
  have c1_19 := hB1.c 19 rfl
  have c1_20 := hB1.c 20 rfl
  have c1_21 := hB1.c 21 rfl
  have c1_22 := hB1.c 22 rfl
  have c1_23 := hB1.c 23 rfl
  have c1_24 := hB1.c 24 rfl
  have c1_25 := hB1.c 25 rfl
  have c1_26 := hB1.c 26 rfl
  have c1_27 := hB1.c 27 rfl
  have c1_28 := hB1.c 28 rfl
  have c1_29 := hB1.c 29 rfl
  have c1_30 := hB1.c 30 rfl
  have c1_31 := hB1.c 31 rfl
  have c1_32 := hB1.c 32 rfl
  have c1_33 := hB1.c 33 rfl
  have c1_34 := hB1.c 34 rfl
  have c1_35 := hB1.c 35 rfl
  have c1_36 := hB1.c 36 rfl
  have c1_37 := hB1.c 37 rfl
  go_upto_region 2 with fail
  go_cut [18] (fun x wc => x = .tuple #[] ∧ Ref wc g (S1.need (decide (1 ≤ x1) && decide (x1 ≤ 4))) ∧ Blk wc w.heap.size 66 #[.int .i64 x1, .int .i64 v1, .int .i64 v2, .int .i64 v3, .bool v4, .int .u64 v5, .int .i64 v6, .int .i64 m1, .int .i64 m2, .int .i64 h1, .int .i64 h2, .int .u64 h3, .int .u64 h4, .int .u64 h5, .int .u64 h6, .int .u64 h7, .int .u64 h8, .int .i64 h9, .slice tA ts.length tc, .slice gA gs.length gc, .slice bA bl.length bc, .int .i64 c1, .int .i64 c2, .int .i64 c3, .bool c4, .int .u64 c5, .slice c6a c6.length c6c, .int .i64 k1, .int .i64 k2, .int .u64 k3, .int .u64 k4, .int .u64 k5, .int .u64 k6, .int .u64 k7, .int .u64 k8, .int .i64 k9, .slice uA us.length uc, .slice qA qs.length qc] ∧ Turned w wc g)
  case first =>
   as_aux_lemma =>
    go_wp2_with fail
    all_goals
      refine (rneed_any _ _ g _ hW1).mono ?_
      rintro e w2 ⟨rfl, hW2, hC2⟩
      go_wp2_with fail
      go_meet
      exact ⟨rfl, hW2.eq (by congr 1; first | rfl | grind | grind [emp]), hC2.blk hB1 (by omega) (by decide), hT1.trans hC2⟩
  case rest =>
    as_aux_lemma =>
      obtain ⟨w2, rfl⟩ : ∃ x : World, x = wc := ⟨_, rfl⟩
      obtain ⟨rfl, hW2, hB2, hT2⟩ := hcut
      have hlt2 := hB2.lt
      have hgl2 := hW2.lt
      have ll2 : (S1.need (decide (1 ≤ x1) && decide (x1 ≤ 4))).b.length = S1.b.length := rfl
      generalize hS2 : S1.need (decide (1 ≤ x1) && decide (x1 ≤ 4)) = S2 at *
      have HS2 := Lib.hid hS2
      clear hS2
      have c2_0 := hB2.c 0 rfl
      have c2_1 := hB2.c 1 rfl
      have c2_2 := hB2.c 2 rfl
      have c2_3 := hB2.c 3 rfl
      have c2_4 := hB2.c 4 rfl
      have c2_5 := hB2.c 5 rfl
      have c2_6 := hB2.c 6 rfl
      have c2_7 := hB2.c 7 rfl
      have c2_8 := hB2.c 8 rfl
      have c2_9 := hB2.c 9 rfl
      have c2_10 := hB2.c 10 rfl
      have c2_11 := hB2.c 11 rfl
      have c2_12 := hB2.c 12 rfl
      have c2_13 := hB2.c 13 rfl
      have c2_14 := hB2.c 14 rfl
      have c2_15 := hB2.c 15 rfl
      have c2_16 := hB2.c 16 rfl
      have c2_17 := hB2.c 17 rfl
      have c2_18 := hB2.c 18 rfl
      have c2_19 := hB2.c 19 rfl
      have c2_20 := hB2.c 20 rfl
      have c2_21 := hB2.c 21 rfl
      have c2_22 := hB2.c 22 rfl
      have c2_23 := hB2.c 23 rfl
      have c2_24 := hB2.c 24 rfl
      have c2_25 := hB2.c 25 rfl
      have c2_26 := hB2.c 26 rfl
      have c2_27 := hB2.c 27 rfl
      have c2_28 := hB2.c 28 rfl
      have c2_29 := hB2.c 29 rfl
      have c2_30 := hB2.c 30 rfl
      have c2_31 := hB2.c 31 rfl
      have c2_32 := hB2.c 32 rfl
      have c2_33 := hB2.c 33 rfl
      have c2_34 := hB2.c 34 rfl
      have c2_35 := hB2.c 35 rfl
      have c2_36 := hB2.c 36 rfl
      have c2_37 := hB2.c 37 rfl
      go_upto_region 3 with fail
      go_cut [4] (fun zx wc => zx = .bool (decide (x1 = 3) || decide (x1 = 4)) ∧ Ref wc g S2 ∧ Blk wc w.heap.size 66 #[.int .i64 x1, .int .i64 v1, .int .i64 v2, .int .i64 v3, .bool v4, .int .u64 v5, .int .i64 v6, .int .i64 m1, .int .i64 m2, .int .i64 h1, .int .i64 h2, .int .u64 h3, .int .u64 h4, .int .u64 h5, .int .u64 h6, .int .u64 h7, .int .u64 h8, .int .i64 h9, .slice tA ts.length tc, .slice gA gs.length gc, .slice bA bl.length bc, .int .i64 c1, .int .i64 c2, .int .i64 c3, .bool c4, .int .u64 c5, .slice c6a c6.length c6c, .int .i64 k1, .int .i64 k2, .int .u64 k3, .int .u64 k4, .int .u64 k5, .int .u64 k6, .int .u64 k7, .int .u64 k8, .int .i64 k9, .slice uA us.length uc, .slice qA qs.length qc] ∧ Turned w wc g)
      case first =>
       as_aux_lemma =>
        go_wp2_with fail
        all_goals
          go_meet
          exact ⟨by first | rfl | (simp [*, eqb]; done) | (simp_all [eqb]; done), hW2, hB2, hT2⟩
      case rest =>
       as_aux_lemma =>
        obtain ⟨w3, rfl⟩ : ∃ x : World, x = wc := ⟨_, rfl⟩
        obtain ⟨rfl, hW3, hB3, hT3⟩ := hcut
        have hlt3 := hB3.lt
        have hgl3 := hW3.lt
        generalize hkn : (decide (x1 = 3) || decide (x1 = 4)) = kn at *
        have HKN := Lib.hid hkn
        clear hkn
        have c3_0 := hB3.c 0 rfl
        have c3_1 := hB3.c 1 rfl
        have c3_2 := hB3.c 2 rfl
        have c3_3 := hB3.c 3 rfl
        have c3_4 := hB3.c 4 rfl
        have c3_5 := hB3.c 5 rfl
        have c3_6 := hB3.c 6 rfl
        have c3_7 := hB3.c 7 rfl
        have c3_8 := hB3.c 8 rfl
        have c3_9 := hB3.c 9 rfl
        have c3_10 := hB3.c 10 rfl
        have c3_11 := hB3.c 11 rfl
        have c3_12 := hB3.c 12 rfl
        have c3_13 := hB3.c 13 rfl
        have c3_14 := hB3.c 14 rfl
        have c3_15 := hB3.c 15 rfl
        have c3_16 := hB3.c 16 rfl
        have c3_17 := hB3.c 17 rfl
        have c3_18 := hB3.c 18 rfl
        have c3_19 := hB3.c 19 rfl
        have c3_20 := hB3.c 20 rfl
        have c3_21 := hB3.c 21 rfl
        have c3_22 := hB3.c 22 rfl
        have c3_23 := hB3.c 23 rfl
        have c3_24 := hB3.c 24 rfl
        have c3_25 := hB3.c 25 rfl
        have c3_26 := hB3.c 26 rfl
        have c3_27 := hB3.c 27 rfl
        have c3_28 := hB3.c 28 rfl
        have c3_29 := hB3.c 29 rfl
        have c3_30 := hB3.c 30 rfl
        have c3_31 := hB3.c 31 rfl
        have c3_32 := hB3.c 32 rfl
        have c3_33 := hB3.c 33 rfl
        have c3_34 := hB3.c 34 rfl
        have c3_35 := hB3.c 35 rfl
        have c3_36 := hB3.c 36 rfl
        have c3_37 := hB3.c 37 rfl
        go_upto_region 4 with fail
        go_cut [37] (fun zx wc => zx = .tuple #[] ∧ Ref wc g (S2.need (decide (x1 = 1) || noVote ⟨v1, v2, v3, v4, v5, v6⟩)) ∧ Blk wc w.heap.size 66 #[.int .i64 x1, .int .i64 v1, .int .i64 v2, .int .i64 v3, .bool v4, .int .u64 v5, .int .i64 v6, .int .i64 m1, .int .i64 m2, .int .i64 h1, .int .i64 h2, .int .u64 h3, .int .u64 h4, .int .u64 h5, .int .u64 h6, .int .u64 h7, .int .u64 h8, .int .i64 h9, .slice tA ts.length tc, .slice gA gs.length gc, .slice bA bl.length bc, .int .i64 c1, .int .i64 c2, .int .i64 c3, .bool c4, .int .u64 c5, .slice c6a c6.length c6c, .int .i64 k1, .int .i64 k2, .int .u64 k3, .int .u64 k4, .int .u64 k5, .int .u64 k6, .int .u64 k7, .int .u64 k8, .int .i64 k9, .slice uA us.length uc, .slice qA qs.length qc] ∧ Turned w wc g)
        case first =>
         as_aux_lemma =>
          have hK1 : Hid (noVote ⟨v1, v2, v3, v4, v5, v6⟩ = (decide (v1 = 0) && decide (v2 = 0) && decide (v3 = 0) && !v4 && decide (v5 = 0) && decide (v6 = 0))) := rfl
          go_wp2_with fail
          all_goals
            refine (rneed_any _ _ g _ hW3).mono ?_
            rintro e w4 ⟨rfl, hW4, hC4⟩
            go_wp2_with fail
            go_meet
            exact ⟨rfl, hW4.eq (by congr 1; rw [hK1.out]; first | rfl | grind | (simp_all; done)), hC4.blk hB3 (by omega) (by decide), hT3.trans hC4⟩
        case rest =>
         as_aux_lemma =>
      
          obtain ⟨w4, rfl⟩ : ∃ x : World, x = wc := ⟨_, rfl⟩
          obtain ⟨rfl, hW4, hB4, hT4⟩ := hcut
          have hlt4 := hB4.lt
          have hgl4 := hW4.lt
          have ll4 : (S2.need (decide (x1 = 1) || noVote ⟨v1, v2, v3, v4, v5, v6⟩)).b.length = S2.b.length := rfl
          generalize hS4 : S2.need (decide (x1 = 1) || noVote ⟨v1, v2, v3, v4, v5, v6⟩) = S4 at *
          have HS4 := Lib.hid hS4
          clear hS4
          have c4_0 := hB4.c 0 rfl
          have c4_1 := hB4.c 1 rfl
          have c4_2 := hB4.c 2 rfl
          have c4_3 := hB4.c 3 rfl
          have c4_4 := hB4.c 4 rfl
          have c4_5 := hB4.c 5 rfl
          have c4_6 := hB4.c 6 rfl
          have c4_7 := hB4.c 7 rfl
          have c4_8 := hB4.c 8 rfl
          have c4_9 := hB4.c 9 rfl
          have c4_10 := hB4.c 10 rfl
          have c4_11 := hB4.c 11 rfl
          have c4_12 := hB4.c 12 rfl
          have c4_13 := hB4.c 13 rfl
          have c4_14 := hB4.c 14 rfl
          have c4_15 := hB4.c 15 rfl
          have c4_16 := hB4.c 16 rfl
          have c4_17 := hB4.c 17 rfl
          have c4_18 := hB4.c 18 rfl
          have c4_19 := hB4.c 19 rfl
          have c4_20 := hB4.c 20 rfl
          have c4_21 := hB4.c 21 rfl
          have c4_22 := hB4.c 22 rfl
          have c4_23 := hB4.c 23 rfl
          have c4_24 := hB4.c 24 rfl
          have c4_25 := hB4.c 25 rfl
          have c4_26 := hB4.c 26 rfl
          have c4_27 := hB4.c 27 rfl
          have c4_28 := hB4.c 28 rfl
          have c4_29 := hB4.c 29 rfl
          have c4_30 := hB4.c 30 rfl
          have c4_31 := hB4.c 31 rfl
          have c4_32 := hB4.c 32 rfl
          have c4_33 := hB4.c 33 rfl
          have c4_34 := hB4.c 34 rfl
          have c4_35 := hB4.c 35 rfl
          have c4_36 := hB4.c 36 rfl
          have c4_37 := hB4.c 37 rfl
          go_upto_region 5 with fail
          go_cut [68] (fun zx wc => zx = .tuple #[] ∧ Ref wc g (S4.need (decide (x1 = 2) || noMotion ⟨m1, m2, ⟨⟨h1, h2, h3, h4, h5, h6, h7, h8, h9⟩, ts, tA, tc, gs, gA, gc⟩, bl, bA, bc⟩)) ∧ Blk wc w.heap.size 66 #[.int .i64 x1, .int .i64 v1, .int .i64 v2, .int .i64 v3, .bool v4, .int .u64 v5, .int .i64 v6, .int .i64 m1, .int .i64 m2, .int .i64 h1, .int .i64 h2, .int .u64 h3, .int .u64 h4, .int .u64 h5, .int .u64 h6, .int .u64 h7, .int .u64 h8, .int .i64 h9, .slice tA ts.length tc, .slice gA gs.length gc, .slice bA bl.length bc, .int .i64 c1, .int .i64 c2, .int .i64 c3, .bool c4, .int .u64 c5, .slice c6a c6.length c6c, .int .i64 k1, .int .i64 k2, .int .u64 k3, .int .u64 k4, .int .u64 k5, .int .u64 k6, .int .u64 k7, .int .u64 k8, .int .i64 k9, .slice uA us.length uc, .slice qA qs.length qc] ∧ Turned w wc g)
          case first =>
           as_aux_lemma =>
            have hK1 : Hid (noMotion ⟨m1, m2, ⟨⟨h1, h2, h3, h4, h5, h6, h7, h8, h9⟩, ts, tA, tc, gs, gA, gc⟩, bl, bA, bc⟩ = (decide (m1 = 0) && decide (m2 = 0) && noBlock ⟨⟨h1, h2, h3, h4, h5, h6, h7, h8, h9⟩, ts, tA, tc, gs, gA, gc⟩ && ((bl.length : Int) == 0))) := by show _ = _; rw [len0]; rfl
            have hnb := fun W => emptyBlock_any ⟨⟨h1, h2, h3, h4, h5, h6, h7, h8, h9⟩, ts, tA, tc, gs, gA, gc⟩ W
            dsimp only [BlockD.val] at hnb
            generalize noBlock ⟨⟨h1, h2, h3, h4, h5, h6, h7, h8, h9⟩, ts, tA, tc, gs, gA, gc⟩ = nb at *
            go_wp2_with fail
            all_goals first
              | (with_reducible refine (rneed_any _ _ g _ hW4).mono ?_
                 rintro e w5 ⟨rfl, hW5, hC5⟩
                 go_wp2_with fail
                 go_meet
                 exact ⟨rfl, hW5.eq (by congr 1; rw [hK1.out]; first | rfl | grind | (simp_all; done)), hC5.blk hB4 (by omega) (by decide), hT4.trans hC5⟩)
              | (with_reducible refine (hnb _).mono ?_
                 rintro e w8 ⟨rfl, hb8⟩
                 have hW8 := hW4.below hb8
                 have hB8 := hB4.below hb8 hB4.lt
                 have hT8 := hT4.ofBelow hb8 (by omega)
                 have hsz8 := hb8.size
                 have k8_7 : w8.cell? ⟨w.heap.size, 7, none⟩ = some (Value.int .i64 m1) := (hB8.cell 7).trans rfl
                 have k8_8 : w8.cell? ⟨w.heap.size, 8, none⟩ = some (Value.int .i64 m2) := (hB8.cell 8).trans rfl
                 have k8_20 : w8.cell? ⟨w.heap.size, 20, none⟩ = some (Value.slice bA bl.length bc) := (hB8.cell 20).trans rfl
                 cases nb
                 all_goals
                   as_aux_lemma =>
                   go_wp2_with fail
                   all_goals
                     refine (rneed_any _ _ g _ hW8).mono ?_
                     rintro e w9 ⟨rfl, hW9, hC9⟩
                     go_wp2_with fail
                     go_meet
                     exact ⟨rfl, hW9.eq (by congr 1; rw [hK1.out]; first | rfl | grind | (simp_all; done)), hC9.blk hB8 (by omega) (by decide), hT8.trans hC9⟩)
          case rest =>
           as_aux_lemma =>
      
            obtain ⟨w5, rfl⟩ : ∃ x : World, x = wc := ⟨_, rfl⟩
            obtain ⟨rfl, hW5, hB5, hT5⟩ := hcut
            have hlt5 := hB5.lt
            have hgl5 := hW5.lt
            have ll5 : (S4.need (decide (x1 = 2) || noMotion ⟨m1, m2, ⟨⟨h1, h2, h3, h4, h5, h6, h7, h8, h9⟩, ts, tA, tc, gs, gA, gc⟩, bl, bA, bc⟩)).b.length = S4.b.length := rfl
            generalize hS5 : S4.need (decide (x1 = 2) || noMotion ⟨m1, m2, ⟨⟨h1, h2, h3, h4, h5, h6, h7, h8, h9⟩, ts, tA, tc, gs, gA, gc⟩, bl, bA, bc⟩) = S5 at *
            have HS5 := Lib.hid hS5
            clear hS5
            have c5_0 := hB5.c 0 rfl
            have c5_1 := hB5.c 1 rfl
            have c5_2 := hB5.c 2 rfl
            have c5_3 := hB5.c 3 rfl
            have c5_4 := hB5.c 4 rfl
            have c5_5 := hB5.c 5 rfl
            have c5_6 := hB5.c 6 rfl
            have c5_7 := hB5.c 7 rfl
            have c5_8 := hB5.c 8 rfl
            have c5_9 := hB5.c 9 rfl
            have c5_10 := hB5.c 10 rfl
            have c5_11 := hB5.c 11 rfl
            have c5_12 := hB5.c 12 rfl
            have c5_13 := hB5.c 13 rfl
            have c5_14 := hB5.c 14 rfl
            have c5_15 := hB5.c 15 rfl
            have c5_16 := hB5.c 16 rfl
            have c5_17 := hB5.c 17 rfl
            have c5_18 := hB5.c 18 rfl
            have c5_19 := hB5.c 19 rfl
            have c5_20 := hB5.c 20 rfl
            have c5_21 := hB5.c 21 rfl
            have c5_22 := hB5.c 22 rfl
            have c5_23 := hB5.c 23 rfl
            have c5_24 := hB5.c 24 rfl
            have c5_25 := hB5.c 25 rfl
            have c5_26 := hB5.c 26 rfl
            have c5_27 := hB5.c 27 rfl
            have c5_28 := hB5.c 28 rfl
            have c5_29 := hB5.c 29 rfl
            have c5_30 := hB5.c 30 rfl
            have c5_31 := hB5.c 31 rfl
            have c5_32 := hB5.c 32 rfl
            have c5_33 := hB5.c 33 rfl
            have c5_34 := hB5.c 34 rfl
            have c5_35 := hB5.c 35 rfl
            have c5_36 := hB5.c 36 rfl
            have c5_37 := hB5.c 37 rfl
            go_upto_region 6 with fail
            go_cut [86] (fun zx wc => zx = .tuple #[] ∧ Ref wc g (S5.need (decide (x1 = 3) || decide (x1 = 4) || noKnown ⟨⟨c1, c2, c3, c4, c5, c6, c6a, c6c⟩, ⟨⟨k1, k2, k3, k4, k5, k6, k7, k8, k9⟩, us, uA, uc, qs, qA, qc⟩⟩)) ∧ Blk wc w.heap.size 66 #[.int .i64 x1, .int .i64 v1, .int .i64 v2, .int .i64 v3, .bool v4, .int .u64 v5, .int .i64 v6, .int .i64 m1, .int .i64 m2, .int .i64 h1, .int .i64 h2, .int .u64 h3, .int .u64 h4, .int .u64 h5, .int .u64 h6, .int .u64 h7, .int .u64 h8, .int .i64 h9, .slice tA ts.length tc, .slice gA gs.length gc, .slice bA bl.length bc, .int .i64 c1, .int .i64 c2, .int .i64 c3, .bool c4, .int .u64 c5, .slice c6a c6.length c6c, .int .i64 k1, .int .i64 k2, .int .u64 k3, .int .u64 k4, .int .u64 k5, .int .u64 k6, .int .u64 k7, .int .u64 k8, .int .i64 k9, .slice uA us.length uc, .slice qA qs.length qc] ∧ Turned w wc g)
            case first =>
             as_aux_lemma =>
              have hK1 : Hid (noKnown ⟨⟨c1, c2, c3, c4, c5, c6, c6a, c6c⟩, ⟨⟨k1, k2, k3, k4, k5, k6, k7, k8, k9⟩, us, uA, uc, qs, qA, qc⟩⟩ = (noCert ⟨c1, c2, c3, c4, c5, c6, c6a, c6c⟩ && noBlock ⟨⟨k1, k2, k3, k4, k5, k6, k7, k8, k9⟩, us, uA, uc, qs, qA, qc⟩)) := rfl
              have hnb := fun W => emptyBlock_any ⟨⟨k1, k2, k3, k4, k5, k6, k7, k8, k9⟩, us, uA, uc, qs, qA, qc⟩ W
              have hnc := fun W => emptyCert_any ⟨c1, c2, c3, c4, c5, c6, c6a, c6c⟩ W
              dsimp only [BlockD.val, CertD.val] at hnb hnc
              generalize noBlock ⟨⟨k1, k2, k3, k4, k5, k6, k7, k8, k9⟩, us, uA, uc, qs, qA, qc⟩ = nb at *
              generalize noCert ⟨c1, c2, c3, c4, c5, c6, c6a, c6c⟩ = nc at *
              cases kn
              all_goals
                as_aux_lemma =>
                have hkk := HKN.out
                clear HKN
                go_wp2_with fail
                all_goals first
                  | (with_reducible refine (rneed_any _ _ g _ hW5).mono ?_
                     rintro e w6 ⟨rfl, hW6, hC6⟩
                     go_wp2_with fail
                     go_meet
                     exact ⟨rfl, hW6.eq (by congr 1; rw [hK1.out]; first | rfl | grind | (simp_all; done)), hC6.blk hB5 (by omega) (by decide), hT5.trans hC6⟩)
                  | (with_reducible refine (hnc _).mono ?_
                     rintro e w8 ⟨rfl, hb8⟩
                     have hW8 := hW5.below hb8
                     have hB8 := hB5.below hb8 hB5.lt
                     have hT8 := hT5.ofBelow hb8 (by omega)
                     have hsz8 := hb8.size
                     have k8_6 : w8.cell? ⟨w.heap.size, 27, none⟩ = some (Value.int .i64 k1) := (hB8.cell 27).trans rfl
                     have k8_7 : w8.cell? ⟨w.heap.size, 28, none⟩ = some (Value.int .i64 k2) := (hB8.cell 28).trans rfl
                     have k8_8 : w8.cell? ⟨w.heap.size, 29, none⟩ = some (Value.int .u64 k3) := (hB8.cell 29).trans rfl
                     have k8_9 : w8.cell? ⟨w.heap.size, 30, none⟩ = some (Value.int .u64 k4) := (hB8.cell 30).trans rfl
                     have k8_10 : w8.cell? ⟨w.heap.size, 31, none⟩ = some (Value.int .u64 k5) := (hB8.cell 31).trans rfl
                     have k8_11 : w8.cell? ⟨w.heap.size, 32, none⟩ = some (Value.int .u64 k6) := (hB8.cell 32).trans rfl
                     have k8_12 : w8.cell? ⟨w.heap.size, 33, none⟩ = some (Value.int .u64 k7) := (hB8.cell 33).trans rfl
                     have k8_13 : w8.cell? ⟨w.heap.size, 34, none⟩ = some (Value.int .u64 k8) := (hB8.cell 34).trans rfl
                     have k8_14 : w8.cell? ⟨w.heap.size, 35, none⟩ = some (Value.int .i64 k9) := (hB8.cell 35).trans rfl
                     have k8_15 : w8.cell? ⟨w.heap.size, 36, none⟩ = some (Value.slice uA us.length uc) := (hB8.cell 36).trans rfl
                     have k8_16 : w8.cell? ⟨w.heap.size, 37, none⟩ = some (Value.slice qA qs.length qc) := (hB8.cell 37).trans rfl
                     cases nc
                     all_goals
                       as_aux_lemma =>
                       go_wp2_with fail
                       all_goals first
                         | (with_reducible refine (rneed_any _ _ g _ hW8).mono ?_
                            rintro e w10 ⟨rfl, hW10, hC10⟩
                            go_wp2_with fail
                            go_meet
                            exact ⟨rfl, hW10.eq (by congr 1; rw [hK1.out]; first | rfl | grind | (simp_all; done)), hC10.blk hB8 (by omega) (by decide), hT8.trans hC10⟩)
                         | (with_reducible refine (hnb _).mono ?_
                            rintro e w9 ⟨rfl, hb9⟩
                            have hW9 := hW8.below hb9
                            have hB9 := hB8.below hb9 hB8.lt
                            have hT9 := hT8.ofBelow hb9 (by omega)
                            have hsz9 := hb9.size
                            cases nb
                            all_goals
                              as_aux_lemma =>
                              go_wp2_with fail
                              all_goals
                                refine (rneed_any _ _ g _ hW9).mono ?_
                                rintro e w11 ⟨rfl, hW11, hC11⟩
                                go_wp2_with fail
                                go_meet
                                exact ⟨rfl, hW11.eq (by congr 1; rw [hK1.out]; first | rfl | grind | (simp_all; done)), hC11.blk hB9 (by omega) (by decide), hT9.trans hC11⟩))
            case rest =>
             as_aux_lemma =>
      
              obtain ⟨w6, rfl⟩ : ∃ x : World, x = wc := ⟨_, rfl⟩
              obtain ⟨rfl, hW6, hB6, hT6⟩ := hcut
              have hlt6 := hB6.lt
              have hgl6 := hW6.lt
              have ll6 : (S5.need (decide (x1 = 3) || decide (x1 = 4) || noKnown ⟨⟨c1, c2, c3, c4, c5, c6, c6a, c6c⟩, ⟨⟨k1, k2, k3, k4, k5, k6, k7, k8, k9⟩, us, uA, uc, qs, qA, qc⟩⟩)).b.length = S5.b.length := rfl
              generalize hS6 : S5.need (decide (x1 = 3) || decide (x1 = 4) || noKnown ⟨⟨c1, c2, c3, c4, c5, c6, c6a, c6c⟩, ⟨⟨k1, k2, k3, k4, k5, k6, k7, k8, k9⟩, us, uA, uc, qs, qA, qc⟩⟩) = S6 at *
              have HS6 := Lib.hid hS6
              clear hS6
              have c6_0 := hB6.c 0 rfl
              have c6_1 := hB6.c 1 rfl
              have c6_2 := hB6.c 2 rfl
              have c6_3 := hB6.c 3 rfl
              have c6_4 := hB6.c 4 rfl
              have c6_5 := hB6.c 5 rfl
              have c6_6 := hB6.c 6 rfl
              have c6_7 := hB6.c 7 rfl
              have c6_8 := hB6.c 8 rfl
              have c6_9 := hB6.c 9 rfl
              have c6_10 := hB6.c 10 rfl
              have c6_11 := hB6.c 11 rfl
              have c6_12 := hB6.c 12 rfl
              have c6_13 := hB6.c 13 rfl
              have c6_14 := hB6.c 14 rfl
              have c6_15 := hB6.c 15 rfl
              have c6_16 := hB6.c 16 rfl
              have c6_17 := hB6.c 17 rfl
              have c6_18 := hB6.c 18 rfl
              have c6_19 := hB6.c 19 rfl
              have c6_20 := hB6.c 20 rfl
              have c6_21 := hB6.c 21 rfl
              have c6_22 := hB6.c 22 rfl
              have c6_23 := hB6.c 23 rfl
              have c6_24 := hB6.c 24 rfl
              have c6_25 := hB6.c 25 rfl
              have c6_26 := hB6.c 26 rfl
              have c6_27 := hB6.c 27 rfl
              have c6_28 := hB6.c 28 rfl
              have c6_29 := hB6.c 29 rfl
              have c6_30 := hB6.c 30 rfl
              have c6_31 := hB6.c 31 rfl
              have c6_32 := hB6.c 32 rfl
              have c6_33 := hB6.c 33 rfl
              have c6_34 := hB6.c 34 rfl
              have c6_35 := hB6.c 35 rfl
              have c6_36 := hB6.c 36 rfl
              have c6_37 := hB6.c 37 rfl
              have hF : Hid (S.record ⟨x1, ⟨v1, v2, v3, v4, v5, v6⟩, ⟨m1, m2, ⟨⟨h1, h2, h3, h4, h5, h6, h7, h8, h9⟩, ts, tA, tc, gs, gA, gc⟩, bl, bA, bc⟩, ⟨⟨c1, c2, c3, c4, c5, c6, c6a, c6c⟩, ⟨⟨k1, k2, k3, k4, k5, k6, k7, k8, k9⟩, us, uA, uc, qs, qA, qc⟩⟩⟩ = S6.what ⟨x1, ⟨v1, v2, v3, v4, v5, v6⟩, ⟨m1, m2, ⟨⟨h1, h2, h3, h4, h5, h6, h7, h8, h9⟩, ts, tA, tc, gs, gA, gc⟩, bl, bA, bc⟩, ⟨⟨c1, c2, c3, c4, c5, c6, c6a, c6c⟩, ⟨⟨k1, k2, k3, k4, k5, k6, k7, k8, k9⟩, us, uA, uc, qs, qA, qc⟩⟩⟩) := by
                show _ = _
                rw [← HS6.out, ← HS5.out, ← HS4.out, ← HS2.out, ← HS1.out]
                rfl
              have hWh : Hid (S6.what ⟨x1, ⟨v1, v2, v3, v4, v5, v6⟩, ⟨m1, m2, ⟨⟨h1, h2, h3, h4, h5, h6, h7, h8, h9⟩, ts, tA, tc, gs, gA, gc⟩, bl, bA, bc⟩, ⟨⟨c1, c2, c3, c4, c5, c6, c6a, c6c⟩, ⟨⟨k1, k2, k3, k4, k5, k6, k7, k8, k9⟩, us, uA, uc, qs, qA, qc⟩⟩⟩ = if x1 = 1 then S6.vote ⟨v1, v2, v3, v4, v5, v6⟩ else if x1 = 2 then S6.motion ⟨m1, m2, ⟨⟨h1, h2, h3, h4, h5, h6, h7, h8, h9⟩, ts, tA, tc, gs, gA, gc⟩, bl, bA, bc⟩ else if x1 = 3 ∨ x1 = 4 then S6.known ⟨⟨c1, c2, c3, c4, c5, c6, c6a, c6c⟩, ⟨⟨k1, k2, k3, k4, k5, k6, k7, k8, k9⟩, us, uA, uc, qs, qA, qc⟩⟩ else S6) := rfl
              rw [hWh.out] at hF
              clear hWh
              by_cases d1 : x1 = 1
              · rw [if_pos d1] at hF
                have d1b : (x1 == 1) = true := by simp [d1]
                have d3b : kn = false := by rw [← HKN.out]; simp [d1]
                subst d3b
                go_wp2_with fail
                refine (rvote_any ⟨v1, v2, v3, v4, v5, v6⟩ hxv _ g _ hW6 (by omega)).mono ?_
                rintro e w7 ⟨rfl, hW7, hC7⟩
                have c7_0 := ((hC7.blk hB6 (by omega) (by decide)).cell 0).trans (show _ = some (Value.int .i64 x1) from rfl)
                go_wp2_with fail
                go_end0
                exact ⟨rfl, hW7.eq hF.out.symm, hT6.trans hC7⟩
              have d1b : (x1 == 1) = false := by simpa using d1
              rw [if_neg d1] at hF
              by_cases d2 : x1 = 2
              · rw [if_pos d2] at hF
                have d2b : (x1 == 2) = true := by simp [d2]
                have d3b : kn = false := by rw [← HKN.out]; simp [d2]
                subst d3b
                go_wp2_with fail
                refine (rmotion_any ⟨m1, m2, ⟨⟨h1, h2, h3, h4, h5, h6, h7, h8, h9⟩, ts, tA, tc, gs, gA, gc⟩, bl, bA, bc⟩ B _ g _ hW6 (by omega) (hxm.below (hT6.low.mono hB)) hB).mono ?_
                rintro e w7 ⟨rfl, hW7, hC7⟩
                have c7_0 := ((hC7.blk hB6 (by omega) (by decide)).cell 0).trans (show _ = some (Value.int .i64 x1) from rfl)
                go_wp2_with fail
                go_end0
                exact ⟨rfl, hW7.eq hF.out.symm, hT6.trans hC7⟩
              have d2b : (x1 == 2) = false := by simpa using d2
              rw [if_neg d2] at hF
              by_cases d3 : x1 = 3 ∨ x1 = 4
              · rw [if_pos d3] at hF
                have d3b : kn = true := by rw [← HKN.out]; simpa using d3
                subst d3b
                go_wp2_with fail
                all_goals
                  refine (rknown_any ⟨⟨c1, c2, c3, c4, c5, c6, c6a, c6c⟩, ⟨⟨k1, k2, k3, k4, k5, k6, k7, k8, k9⟩, us, uA, uc, qs, qA, qc⟩⟩ B _ g _ hW6 (by omega) (hxk.below (hT6.low.mono hB)) hB).mono ?_
                  rintro e w7 ⟨rfl, hW7, hC7⟩
                  go_wp2_with fail
                  go_end0
                  exact ⟨rfl, hW7.eq hF.out.symm, hT6.trans hC7⟩
              have d3b : kn = false := by rw [← HKN.out]; simpa using d3
              subst d3b
              have d3c : (x1 == 3) = false := by simp; omega
              have d4c : (x1 == 4) = false := by simp; omega
              rw [if_neg d3] at hF
              go_wp2_with fail
              go_end0
              exact ⟨rfl, hW6.eq hF.out.symm, hT6⟩
set_option maxRecDepth 100000 in
set_option maxHeartbeats 1000000 in
theorem putsMotion_any (l : List MotionD) (A : Option Addr) (c B : Nat) (m : Int) (w : World) (g : Nat) (S : Out) (h : Wrt w g S) (hr : MotionsL w B A l) (hB : B ≤ g) (hd : ∀ x ∈ l, x.held w B) (hl : S.b.length + 6 + sumL motionW l ≤ 58999999940000) (hm : l.length ≤ maxLen) :
    Calls Tryz.prog 258 #[.pointer (some ⟨g, 0, none⟩), .slice A l.length c, .int .i64 m, .func (.func 239) #[] #[]] w fun e w' => e = .returned (.tuple #[]) ∧ Wrt w' g (S.list l m Out.motion) ∧ Turned w w' g := by
  unfold maxLen at hm
  have hgt := h.lt
  have hn := ((S.lim l.length m).num_len l.length)
  have hb0 : (S.lim l.length m).b.length = S.b.length := rfl
  have hE : Hid (S.list l m Out.motion = l.foldl Out.motion ((S.lim l.length m).num l.length)) := rfl
  go_enter Tryz.func258, Tryz.ntmps258
  go_wp2_with fail
  refine (limited_any _ _ _ g _ h).mono ?_
  rintro e w1 ⟨rfl, hW1, hT1⟩
  go_wp2_with fail
  refine (number_any _ _ g _ hW1 (by omega)).mono ?_
  rintro e w2 ⟨rfl, hW2, hT2⟩
  have hT02 := hT1.trans hT2
  clear hT1 hT2 hW1
  generalize (S.lim l.length m).num l.length = S2 at *
  go_wp2_with fail
  go_loopw [9, 21] (fun _ i wr => ∃ j : Nat, i = .int .i64 (j : Int) ∧ j ≤ l.length ∧ Wrt wr g ((l.take j).foldl Out.motion S2) ∧ Turned w wr g) (fun _ i _ => l.length - (intOf i).toNat)
  case atStart => exact ⟨0, rfl, by omega, by simpa using hW2, hT02⟩
  case round =>
   as_aux_lemma =>
    obtain ⟨j, rfl, hj, hW, hT⟩ := hrel
    have hgw := hW.lt
    by_cases hlt : j < l.length
    · as_aux_lemma =>
      have hji : (j : Int) < (l.length : Int) := by omega
      obtain ⟨b, off, rfl, hbB, hc⟩ := MotionsL.at_ (hT.rd hr hB) hlt
      have HS := Lib.hid (fold_take Out.motion S2 l j hlt)
      have hle := fold_len Out.motion motionW Out.motion_lenW (l.take j) S2
      have hle2 := sumL_take motionW l j hlt
      have hx := (hd l[j] (List.getElem_mem hlt)).below (hT.low.mono hB)
      generalize hxx : l[j] = x at *
      clear hxx
      have c0 : wr.cell? ⟨b, off + j * 14, none⟩ = some (.int .i64 x.r) := hc 0 _ rfl
      have c1 : wr.cell? ⟨b, off + j * 14 + 1, none⟩ = some (.int .i64 x.f) := hc 1 _ rfl
      have c2 : wr.cell? ⟨b, off + j * 14 + 2, none⟩ = some (.int .i64 x.block.header.c) := hc 2 _ rfl
      have c3 : wr.cell? ⟨b, off + j * 14 + 3, none⟩ = some (.int .i64 x.block.header.h) := hc 3 _ rfl
      have c4 : wr.cell? ⟨b, off + j * 14 + 4, none⟩ = some (.int .u64 x.block.header.p) := hc 4 _ rfl
      have c5 : wr.cell? ⟨b, off + j * 14 + 5, none⟩ = some (.int .u64 x.block.header.t) := hc 5 _ rfl
      have c6 : wr.cell? ⟨b, off + j * 14 + 6, none⟩ = some (.int .u64 x.block.header.g) := hc 6 _ rfl
      have c7 : wr.cell? ⟨b, off + j * 14 + 7, none⟩ = some (.int .u64 x.block.header.s) := hc 7 _ rfl
      have c8 : wr.cell? ⟨b, off + j * 14 + 8, none⟩ = some (.int .u64 x.block.header.r) := hc 8 _ rfl
      have c9 : wr.cell? ⟨b, off + j * 14 + 9, none⟩ = some (.int .u64 x.block.header.b) := hc 9 _ rfl
      have c10 : wr.cell? ⟨b, off + j * 14 + 10, none⟩ = some (.int .i64 x.block.header.o) := hc 10 _ rfl
      have c11 : wr.cell? ⟨b, off + j * 14 + 11, none⟩ = some (.slice x.block.ta x.block.txs.length x.block.tc) := hc 11 _ rfl
      have c12 : wr.cell? ⟨b, off + j * 14 + 12, none⟩ = some (.slice x.block.ga x.block.guilts.length x.block.gc) := hc 12 _ rfl
      have c13 : wr.cell? ⟨b, off + j * 14 + 13, none⟩ = some (.slice x.ba x.basis.length x.bc) := hc 13 _ rfl
      clear hc
      go_wp2_with fail
      refine (wmotion_any x B _ g _ (hW.alloc _) (by unfold motionW at *; omega) (hx.below ((Below.refl B wr).alloc (by omega) _)) hB).mono ?_
      rintro e w3 ⟨rfl, hW3, hT3⟩
      go_wp2_with fail
      go_roundw
      case rel => exact ⟨j + 1, by go_num, by omega, by rw [HS.out]; exact hW3, (hT.alloc (Nat.le_of_lt hgw) _).trans hT3⟩
      case measure => simp [intOf]; omega
    · have hji : ¬ (j : Int) < (l.length : Int) := by omega
      go_wp2
      go_end0
      rw [List.take_of_length_le (by omega)] at hW
      exact ⟨rfl, by rw [hE.out]; exact hW, hT⟩
set_option maxRecDepth 100000 in
set_option maxHeartbeats 1000000 in
theorem putsKnown_any (l : List KnownD) (A : Option Addr) (c B : Nat) (m : Int) (w : World) (g : Nat) (S : Out) (h : Wrt w g S) (hr : KnownsL w B A l) (hB : B ≤ g) (hd : ∀ x ∈ l, x.held w B) (hl : S.b.length + 6 + sumL knownW l ≤ 58999999940000) (hm : l.length ≤ maxLen) :
    Calls Tryz.prog 259 #[.pointer (some ⟨g, 0, none⟩), .slice A l.length c, .int .i64 m, .func (.func 240) #[] #[]] w fun e w' => e = .returned (.tuple #[]) ∧ Wrt w' g (S.list l m Out.known) ∧ Turned w w' g := by
  unfold maxLen at hm
  have hgt := h.lt
  have hn := ((S.lim l.length m).num_len l.length)
  have hb0 : (S.lim l.length m).b.length = S.b.length := rfl
  have hE : Hid (S.list l m Out.known = l.foldl Out.known ((S.lim l.length m).num l.length)) := rfl
  go_enter Tryz.func259, Tryz.ntmps259
  go_wp2_with fail
  refine (limited_any _ _ _ g _ h).mono ?_
  rintro e w1 ⟨rfl, hW1, hT1⟩
  go_wp2_with fail
  refine (number_any _ _ g _ hW1 (by omega)).mono ?_
  rintro e w2 ⟨rfl, hW2, hT2⟩
  have hT02 := hT1.trans hT2
  clear hT1 hT2 hW1
  generalize (S.lim l.length m).num l.length = S2 at *
  go_wp2_with fail
  go_loopw [9, 21] (fun _ i wr => ∃ j : Nat, i = .int .i64 (j : Int) ∧ j ≤ l.length ∧ Wrt wr g ((l.take j).foldl Out.known S2) ∧ Turned w wr g) (fun _ i _ => l.length - (intOf i).toNat)
  case atStart => exact ⟨0, rfl, by omega, by simpa using hW2, hT02⟩
  case round =>
   as_aux_lemma =>
    obtain ⟨j, rfl, hj, hW, hT⟩ := hrel
    have hgw := hW.lt
    by_cases hlt : j < l.length
    · as_aux_lemma =>
      have hji : (j : Int) < (l.length : Int) := by omega
      obtain ⟨b, off, rfl, hbB, hc⟩ := KnownsL.at_ (hT.rd hr hB) hlt
      have HS := Lib.hid (fold_take Out.known S2 l j hlt)
      have hle := fold_len Out.known knownW Out.known_lenW (l.take j) S2
      have hle2 := sumL_take knownW l j hlt
      have hx := (hd l[j] (List.getElem_mem hlt)).below (hT.low.mono hB)
      generalize hxx : l[j] = x at *
      clear hxx
      have c0 : wr.cell? ⟨b, off + j * 17, none⟩ = some (.int .i64 x.cert.h) := hc 0 _ rfl
      have c1 : wr.cell? ⟨b, off + j * 17 + 1, none⟩ = some (.int .i64 x.cert.r) := hc 1 _ rfl
      have c2 : wr.cell? ⟨b, off + j * 17 + 2, none⟩ = some (.int .i64 x.cert.s) := hc 2 _ rfl
      have c3 : wr.cell? ⟨b, off + j * 17 + 3, none⟩ = some (.bool x.cert.has) := hc 3 _ rfl
      have c4 : wr.cell? ⟨b, off + j * 17 + 4, none⟩ = some (.int .u64 x.cert.b) := hc 4 _ rfl
      have c5 : wr.cell? ⟨b, off + j * 17 + 5, none⟩ = some (.slice x.cert.fa x.cert.froms.length x.cert.fc) := hc 5 _ rfl
      have c6 : wr.cell? ⟨b, off + j * 17 + 6, none⟩ = some (.int .i64 x.block.header.c) := hc 6 _ rfl
      have c7 : wr.cell? ⟨b, off + j * 17 + 7, none⟩ = some (.int .i64 x.block.header.h) := hc 7 _ rfl
      have c8 : wr.cell? ⟨b, off + j * 17 + 8, none⟩ = some (.int .u64 x.block.header.p) := hc 8 _ rfl
      have c9 : wr.cell? ⟨b, off + j * 17 + 9, none⟩ = some (.int .u64 x.block.header.t) := hc 9 _ rfl
      have c10 : wr.cell? ⟨b, off + j * 17 + 10, none⟩ = some (.int .u64 x.block.header.g) := hc 10 _ rfl
      have c11 : wr.cell? ⟨b, off + j * 17 + 11, none⟩ = some (.int .u64 x.block.header.s) := hc 11 _ rfl
      have c12 : wr.cell? ⟨b, off + j * 17 + 12, none⟩ = some (.int .u64 x.block.header.r) := hc 12 _ rfl
      have c13 : wr.cell? ⟨b, off + j * 17 + 13, none⟩ = some (.int .u64 x.block.header.b) := hc 13 _ rfl
      have c14 : wr.cell? ⟨b, off + j * 17 + 14, none⟩ = some (.int .i64 x.block.header.o) := hc 14 _ rfl
      have c15 : wr.cell? ⟨b, off + j * 17 + 15, none⟩ = some (.slice x.block.ta x.block.txs.length x.block.tc) := hc 15 _ rfl
      have c16 : wr.cell? ⟨b, off + j * 17 + 16, none⟩ = some (.slice x.block.ga x.block.guilts.length x.block.gc) := hc 16 _ rfl
      clear hc
      go_upto_region 5 with fail
      as_aux_lemma =>
      go_wp2_with fail
      as_aux_lemma =>
      refine (wknown_any x B _ g _ (hW.alloc _) (by unfold knownW at *; omega) (hx.below ((Below.refl B wr).alloc (by omega) _)) hB).mono ?_
      rintro e w3 ⟨rfl, hW3, hT3⟩
      go_wp2_with fail
      go_roundw
      case rel => exact ⟨j + 1, by go_num, by omega, by rw [HS.out]; exact hW3, (hT.alloc (Nat.le_of_lt hgw) _).trans hT3⟩
      case measure => simp [intOf]; omega
    · have hji : ¬ (j : Int) < (l.length : Int) := by omega
      go_wp2
      go_end0
      rw [List.take_of_length_le (by omega)] at hW
      exact ⟨rfl, by rw [hE.out]; exact hW, hT⟩
set_option maxRecDepth 100000 in
set_option maxHeartbeats 1000000 in
theorem wmessage_any (x : MessageD) (B : Nat) (w : World) (g : Nat) (S : Out) (h : Wrt w g S) (hl : S.b.length + 40 * messageM x ≤ 58999999930000) (hx : x.held w B) (hB : B ≤ g) :
  Calls Tryz.prog 199 #[.pointer (some ⟨g, 0, none⟩), x.val] w fun e w' => e = .returned (.tuple #[]) ∧ Wrt w' g (S.message x) ∧ Turned w w' g := by
 have hgt := h.lt; have hE : Hid (S.message x = (((((S.nums [x.f, x.t, x.h]).list x.votes 512 Out.vote).list x.motions 2 Out.motion).list x.knowns 2 Out.known).list x.txs 16 Out.tx).need (decide (1 ≤ x.f))) := rfl; obtain ⟨x1, x2, x3, vl, vA, vc, ml, mA, mc, kl, kA, kc, ts, tA, tc⟩ := x; simp only [messageM] at hl
 try dsimp only at hl
 obtain ⟨hxv, hxm, hxk, hxt, ⟨hs0, hs1, hs2, hs3⟩, hxv2, hxm2, hxk2, hxt2⟩ := hx; dsimp only at hxv hxm hxk hxt hs0 hs1 hs2 hs3 hxv2 hxm2 hxk2 hxt2; have hsw1 : sumL voteW vl = 33 * vl.length := sumL_const 33 vl; have hsw2 : sumL voteM vl = 7 * vl.length := sumL_const 7 vl; have hsw3 := motions_W ml; have hsw4 := knowns_W kl; have hsw5 := txs_W ts; dsimp only [MessageD.val]; go_enter Tryz.func199, Tryz.ntmps199; go_wp2_with fail; have ll1 := S.nums_len [x1, x2, x3]; simp only [List.length_cons, List.length_nil] at ll1; refine (numbers_any [x1, x2, x3] 3 _ g (w.heap.size + 1) S ((h.alloc _).alloc _) (by have hN := Blk.new (w.alloc (.cells #[.int .i64 x1, .int .i64 x2, .int .i64 x3, .slice vA vl.length vc, .slice mA ml.length mc, .slice kA kl.length kc, .slice tA ts.length tc] 177)) 3 #[.int .i64 x1, .int .i64 x2, .int .i64 x3]; simpa using hN) (by omega) (by simp; omega)).mono ?_; rintro e w1 ⟨rfl, hW1, hC1⟩; have hB1 := hC1.blk ((Blk.new _ _ _).alloc _) (by omega) (by decide); have hT1 := (((Turned.refl w g).alloc (by omega) _).alloc (by simp; omega) _).trans hC1; have hlt1 := hB1.lt; have hgl1 := hW1.lt; generalize S.nums [x1, x2, x3] = S1 at *; have c1_0 := hB1.c 0 rfl; have c1_1 := hB1.c 1 rfl; have c1_2 := hB1.c 2 rfl; have c1_3 := hB1.c 3 rfl; have c1_4 := hB1.c 4 rfl; have c1_5 := hB1.c 5 rfl; have c1_6 := hB1.c 6 rfl; go_wp2_with fail; refine (putsVote_any vl vA vc B 512 _ g _ hW1 (hT1.rd hxv hB) hB hxv2 (by omega) hs0).mono ?_; rintro e w2 ⟨rfl, hW2, hC2⟩; have hB2 := hC2.blk hB1 (by omega) (by decide); have hT2 := hT1.trans hC2; have hlt2 := hB2.lt; have hgl2 := hW2.lt; have ll2 := list_len Out.vote voteW Out.vote_lenW vl 512 S1; generalize S1.list vl 512 Out.vote = S2 at *; have c2_0 := hB2.c 0 rfl; have c2_1 := hB2.c 1 rfl; have c2_2 := hB2.c 2 rfl; have c2_3 := hB2.c 3 rfl; have c2_4 := hB2.c 4 rfl; have c2_5 := hB2.c 5 rfl; have c2_6 := hB2.c 6 rfl; go_wp2_with fail
 refine (putsMotion_any ml mA mc B 2 _ g _ hW2 (hT2.rd hxm hB) hB (fun y hy => (hxm2 y hy).below (hT2.low.mono hB)) (by omega) hs1).mono ?_; rintro e w3 ⟨rfl, hW3, hC3⟩; have hB3 := hC3.blk hB2 (by omega) (by decide); have hT3 := hT2.trans hC3; have hlt3 := hB3.lt; have hgl3 := hW3.lt; have ll3 := list_len Out.motion motionW Out.motion_lenW ml 2 S2; generalize S2.list ml 2 Out.motion = S3 at *; have c3_0 := hB3.c 0 rfl; have c3_1 := hB3.c 1 rfl; have c3_2 := hB3.c 2 rfl; have c3_3 := hB3.c 3 rfl; have c3_4 := hB3.c 4 rfl; have c3_5 := hB3.c 5 rfl; have c3_6 := hB3.c 6 rfl; go_wp2_with fail; refine (putsKnown_any kl kA kc B 2 _ g _ hW3 (hT3.rd hxk hB) hB (fun y hy => (hxk2 y hy).below (hT3.low.mono hB)) (by omega) hs2).mono ?_; rintro e w4 ⟨rfl, hW4, hC4⟩; have hB4 := hC4.blk hB3 (by omega) (by decide); have hT4 := hT3.trans hC4; have hlt4 := hB4.lt; have hgl4 := hW4.lt; have ll4 := list_len Out.known knownW Out.known_lenW kl 2 S3; generalize S3.list kl 2 Out.known = S4 at *; have c4_0 := hB4.c 0 rfl; have c4_1 := hB4.c 1 rfl; have c4_2 := hB4.c 2 rfl; have c4_3 := hB4.c 3 rfl; have c4_4 := hB4.c 4 rfl; have c4_5 := hB4.c 5 rfl; have c4_6 := hB4.c 6 rfl; go_wp2_with fail; refine (putsTx_any ts tA tc B 16 _ g _ hW4 (hT4.rd hxt hB) hB (fun y hy => (hxt2 y hy).below (hT4.low.mono hB)) (by omega) hs3).mono ?_; rintro e w5 ⟨rfl, hW5, hC5⟩; have hB5 := hC5.blk hB4 (by omega) (by decide); have hT5 := hT4.trans hC5; have hlt5 := hB5.lt; have hgl5 := hW5.lt; have ll5 := list_len Out.tx txW Out.tx_lenW ts 16 S4; generalize S4.list ts 16 Out.tx = S5 at *; have c5_0 := hB5.c 0 rfl; have c5_1 := hB5.c 1 rfl; have c5_2 := hB5.c 2 rfl; have c5_3 := hB5.c 3 rfl; have c5_4 := hB5.c 4 rfl; have c5_5 := hB5.c 5 rfl; have c5_6 := hB5.c 6 rfl; go_wp2_with fail
 all_goals
  refine (need_any _ _ g _ hW5).mono ?_; rintro e w6 ⟨rfl, hW6, hC6⟩; have hB6 := hC6.blk hB5 (by omega) (by decide); have hT6 := hT5.trans hC6; have hlt6 := hB6.lt; have hgl6 := hW6.lt; go_wp2_with fail
  go_end0
  exact ⟨rfl, Wrt.eq hW6 (by rw [hE.out] <;> rfl), hT6⟩
set_option maxRecDepth 100000 in
set_option maxHeartbeats 4000000 in
theorem rmessage_any (x : MessageD) (B : Nat) (w : World) (g : Nat) (S : Out) (h : Ref w g S) (hl : S.b.length + 40 * messageM x ≤ 58999999930000) (hx : x.held w B) (hB : B ≤ g) :
  Calls Tryz.prog 202 #[.pointer (some ⟨g, 0, none⟩), x.val] w fun e w' => e = .returned (.tuple #[]) ∧ Ref w' g (S.message x) ∧ Turned w w' g := by
 have hgt := h.lt; have hE : Hid (S.message x = (x.txs.foldl Out.tx (((x.knowns.foldl Out.known (((x.motions.foldl Out.motion (((x.votes.foldl Out.vote (((((S.num x.f).num x.t).num x.h).lim x.votes.length 512).num x.votes.length)).lim x.motions.length 2).num x.motions.length)).lim x.knowns.length 2).num x.knowns.length)).lim x.txs.length 16).num x.txs.length)).need (decide (1 ≤ x.f))) := rfl; obtain ⟨x1, x2, x3, vl, vA, vc, ml, mA, mc, kl, kA, kc, ts, tA, tc⟩ := x; simp only [messageM] at hl
 try dsimp only at hl
 obtain ⟨hxv, hxm, hxk, hxt, ⟨hs0, hs1, hs2, hs3⟩, hxv2, hxm2, hxk2, hxt2⟩ := hx; dsimp only at hxv hxm hxk hxt hs0 hs1 hs2 hs3 hxv2 hxm2 hxk2 hxt2; have hsw1 : sumL voteW vl = 33 * vl.length := sumL_const 33 vl; have hsw2 : sumL voteM vl = 7 * vl.length := sumL_const 7 vl; have hsw3 := motions_W ml; have hsw4 := knowns_W kl; have hsw5 := txs_W ts; unfold maxLen at hs0 hs1 hs2 hs3; have HL_vl : Hid (∀ S' : Out, (S'.lim vl.length 512).b.length = S'.b.length) := fun _ => rfl
 have HL_ml : Hid (∀ S' : Out, (S'.lim ml.length 2).b.length = S'.b.length) := fun _ => rfl
 have HL_kl : Hid (∀ S' : Out, (S'.lim kl.length 2).b.length = S'.b.length) := fun _ => rfl
 have HL_ts : Hid (∀ S' : Out, (S'.lim ts.length 16).b.length = S'.b.length) := fun _ => rfl
 dsimp only [MessageD.val]; go_enter Tryz.func202, Tryz.ntmps202; go_wp2_with fail; refine (rnumber_any _ _ g _ (h.alloc _) (by omega)).mono ?_; rintro e w1 ⟨rfl, hW1, hC1⟩; have hB1 := hC1.blk (Blk.new _ _ _) (by omega) (by decide); have hT1 := ((Turned.refl w g).alloc (by omega) _).trans hC1; have hlt1 := hB1.lt; have hgl1 := hW1.lt; have ll1 := S.num_len x1; generalize S.num x1 = S1 at *; have c1_0 := hB1.c 0 rfl; have c1_1 := hB1.c 1 rfl; have c1_2 := hB1.c 2 rfl; have c1_3 := hB1.c 3 rfl; have c1_4 := hB1.c 4 rfl; have c1_5 := hB1.c 5 rfl; have c1_6 := hB1.c 6 rfl; go_wp2_with fail; refine (rnumber_any _ _ g _ hW1 (by omega)).mono ?_; rintro e w2 ⟨rfl, hW2, hC2⟩; have hB2 := hC2.blk hB1 (by omega) (by decide); have hT2 := hT1.trans hC2; have hlt2 := hB2.lt; have hgl2 := hW2.lt; have ll2 := S1.num_len x2; generalize S1.num x2 = S2 at *; have c2_0 := hB2.c 0 rfl; have c2_1 := hB2.c 1 rfl; have c2_2 := hB2.c 2 rfl; have c2_3 := hB2.c 3 rfl; have c2_4 := hB2.c 4 rfl; have c2_5 := hB2.c 5 rfl; have c2_6 := hB2.c 6 rfl; go_wp2_with fail; refine (rnumber_any _ _ g _ hW2 (by omega)).mono ?_; rintro e w3 ⟨rfl, hW3, hC3⟩; have hB3 := hC3.blk hB2 (by omega) (by decide); have hT3 := hT2.trans hC3; have hlt3 := hB3.lt; have hgl3 := hW3.lt; have ll3 := S2.num_len x3; generalize S2.num x3 = S3 at *; have c3_0 := hB3.c 0 rfl; have c3_1 := hB3.c 1 rfl; have c3_2 := hB3.c 2 rfl; have c3_3 := hB3.c 3 rfl; have c3_4 := hB3.c 4 rfl; have c3_5 := hB3.c 5 rfl; have c3_6 := hB3.c 6 rfl; go_wp2_with fail; refine (rcount_any _ _ _ g _ hW3 (by omega)).mono ?_; rintro e w4 ⟨rfl, hW4, hC4⟩; have hB4 := hC4.blk hB3 (by omega) (by decide); have hT4 := hT3.trans hC4; have hlt4 := hB4.lt; have hgl4 := hW4.lt; have ll4 := (S3.lim vl.length 512).num_len vl.length; rw [HL_vl.out] at ll4; generalize (S3.lim vl.length 512).num vl.length = S4 at *; have c4_0 := hB4.c 0 rfl; have c4_1 := hB4.c 1 rfl; have c4_2 := hB4.c 2 rfl
 have c4_3 := hB4.c 3 rfl; have c4_4 := hB4.c 4 rfl; have c4_5 := hB4.c 5 rfl; have c4_6 := hB4.c 6 rfl; go_wp2_with fail
 go_loopw [4] (fun i wr => ∃ j : Nat, i = .int .i64 (j : Int) ∧ j ≤ vl.length ∧ Ref wr g ((vl.take j).foldl Out.vote S4) ∧ Blk wr w.heap.size 177 #[.int .i64 x1, .int .i64 x2, .int .i64 x3, .slice vA vl.length vc, .slice mA ml.length mc, .slice kA kl.length kc, .slice tA ts.length tc] ∧ Turned w wr g) (fun i _ => vl.length - (intOf i).toNat)
 case atStart => exact ⟨0, rfl, by omega, by simpa using hW4, hB4, hT4⟩
 case round =>
  obtain ⟨j5, rfl, hj5, hWx5, hBx5, hTx5⟩ := hrel; have hgx5 := hWx5.lt; have kx5 := hBx5.c 3 rfl
  by_cases hlt5 : j5 < vl.length
  ·as_aux_lemma =>
    have hji5 : (j5 : Int) < (vl.length : Int) := by omega
    obtain ⟨b, off, rfl, hbB, hc⟩ := VotesL.at_ (hTx5.rd hxv hB) hlt5; have HSl := Lib.hid (fold_take Out.vote S4 vl j5 hlt5); have hle := fold_len Out.vote voteW Out.vote_lenW (vl.take j5) S4; have hle2 := sumL_take voteW vl j5 hlt5; have hok := hxv2 vl[j5] (List.getElem_mem hlt5); generalize hxx : vl[j5] = x at *; clear hxx; have d0 : wr.cell? ⟨b, off + j5 * 6, none⟩ = some (.int .i64 x.h) := hc 0 _ rfl; have d1 : wr.cell? ⟨b, off + j5 * 6 + 1, none⟩ = some (.int .i64 x.r) := hc 1 _ rfl; have d2 : wr.cell? ⟨b, off + j5 * 6 + 2, none⟩ = some (.int .i64 x.s) := hc 2 _ rfl; have d3 : wr.cell? ⟨b, off + j5 * 6 + 3, none⟩ = some (.bool x.has) := hc 3 _ rfl; have d4 : wr.cell? ⟨b, off + j5 * 6 + 4, none⟩ = some (.int .u64 x.b) := hc 4 _ rfl; have d5 : wr.cell? ⟨b, off + j5 * 6 + 5, none⟩ = some (.int .i64 x.f) := hc 5 _ rfl; clear hc; go_wp2_with fail; refine (rvote_any x hok _ g _ hWx5 (by unfold voteW at *; omega)).mono ?_; rintro e w90 ⟨rfl, hW90, hC90⟩; have hB90 := hC90.blk hBx5 (by omega) (by decide); have hT90 := hTx5.trans hC90; go_wp2_with fail
    go_roundw
    case rel => exact ⟨j5 + 1, by go_num, by omega, by rw [HSl.out]; exact hW90, hB90, hT90⟩
    case measure => simp [intOf]; omega
  have hji5 : ¬ (j5 : Int) < (vl.length : Int) := by omega
  rw [List.take_of_length_le (by omega)] at hWx5; have ll5 := fold_len Out.vote voteW Out.vote_lenW vl S4; obtain ⟨w5, rfl⟩ : ∃ x : World, x = wr := ⟨_, rfl⟩
  obtain ⟨hW5, hB5, hT5⟩ : Ref w5 g (vl.foldl Out.vote S4) ∧ Blk w5 w.heap.size 177 #[.int .i64 x1, .int .i64 x2, .int .i64 x3, .slice vA vl.length vc, .slice mA ml.length mc, .slice kA kl.length kc, .slice tA ts.length tc] ∧ Turned w w5 g := ⟨hWx5, hBx5, hTx5⟩
  clear hWx5 hBx5 hTx5 hlt5; generalize vl.foldl Out.vote S4 = S5 at *; have hlt5 := hB5.lt; have hgl5 := hW5.lt; have c5_0 := hB5.c 0 rfl; have c5_1 := hB5.c 1 rfl; have c5_2 := hB5.c 2 rfl; have c5_3 := hB5.c 3 rfl; have c5_4 := hB5.c 4 rfl; have c5_5 := hB5.c 5 rfl; have c5_6 := hB5.c 6 rfl; go_wp2_with fail; refine (rcount_any _ _ _ g _ hW5 (by omega)).mono ?_; rintro e w6 ⟨rfl, hW6, hC6⟩; have hB6 := hC6.blk hB5 (by omega) (by decide); have hT6 := hT5.trans hC6; have hlt6 := hB6.lt; have hgl6 := hW6.lt; have ll6 := (S5.lim ml.length 2).num_len ml.length; rw [HL_ml.out] at ll6; generalize (S5.lim ml.length 2).num ml.length = S6 at *; have c6_0 := hB6.c 0 rfl; have c6_1 := hB6.c 1 rfl; have c6_2 := hB6.c 2 rfl; have c6_3 := hB6.c 3 rfl; have c6_4 := hB6.c 4 rfl; have c6_5 := hB6.c 5 rfl; have c6_6 := hB6.c 6 rfl; go_wp2_with fail
  go_loopw [5] (fun i wr => ∃ j : Nat, i = .int .i64 (j : Int) ∧ j ≤ ml.length ∧ Ref wr g ((ml.take j).foldl Out.motion S6) ∧ Blk wr w.heap.size 177 #[.int .i64 x1, .int .i64 x2, .int .i64 x3, .slice vA vl.length vc, .slice mA ml.length mc, .slice kA kl.length kc, .slice tA ts.length tc] ∧ Turned w wr g) (fun i _ => ml.length - (intOf i).toNat)
  case atStart => exact ⟨0, rfl, by omega, by simpa using hW6, hB6, hT6⟩
  case round =>
   obtain ⟨j7, rfl, hj7, hWx7, hBx7, hTx7⟩ := hrel; have hgx7 := hWx7.lt; have kx7 := hBx7.c 4 rfl
   by_cases hlt7 : j7 < ml.length
   ·as_aux_lemma =>
     have hji7 : (j7 : Int) < (ml.length : Int) := by omega
     obtain ⟨b, off, rfl, hbB, hc⟩ := MotionsL.at_ (hTx7.rd hxm hB) hlt7; have HSl := Lib.hid (fold_take Out.motion S6 ml j7 hlt7); have hle := fold_len Out.motion motionW Out.motion_lenW (ml.take j7) S6; have hle2 := sumL_take motionW ml j7 hlt7; have hx := (hxm2 ml[j7] (List.getElem_mem hlt7)).below (hTx7.low.mono hB); generalize hxx : ml[j7] = x at *; clear hxx; have d0 : wr.cell? ⟨b, off + j7 * 14, none⟩ = some (.int .i64 x.r) := hc 0 _ rfl; have d1 : wr.cell? ⟨b, off + j7 * 14 + 1, none⟩ = some (.int .i64 x.f) := hc 1 _ rfl; have d2 : wr.cell? ⟨b, off + j7 * 14 + 2, none⟩ = some (.int .i64 x.block.header.c) := hc 2 _ rfl; have d3 : wr.cell? ⟨b, off + j7 * 14 + 3, none⟩ = some (.int .i64 x.block.header.h) := hc 3 _ rfl; have d4 : wr.cell? ⟨b, off + j7 * 14 + 4, none⟩ = some (.int .u64 x.block.header.p) := hc 4 _ rfl; have d5 : wr.cell? ⟨b, off + j7 * 14 + 5, none⟩ = some (.int .u64 x.block.header.t) := hc 5 _ rfl; have d6 : wr.cell? ⟨b, off + j7 * 14 + 6, none⟩ = some (.int .u64 x.block.header.g) := hc 6 _ rfl; have d7 : wr.cell? ⟨b, off + j7 * 14 + 7, none⟩ = some (.int .u64 x.block.header.s) := hc 7 _ rfl; have d8 : wr.cell? ⟨b, off + j7 * 14 + 8, none⟩ = some (.int .u64 x.block.header.r) := hc 8 _ rfl; have d9 : wr.cell? ⟨b, off + j7 * 14 + 9, none⟩ = some (.int .u64 x.block.header.b) := hc 9 _ rfl; have d10 : wr.cell? ⟨b, off + j7 * 14 + 10, none⟩ = some (.int .i64 x.block.header.o) := hc 10 _ rfl; have d11 : wr.cell? ⟨b, off + j7 * 14 + 11, none⟩ = some (.slice x.block.ta x.block.txs.length x.block.tc) := hc 11 _ rfl; have d12 : wr.cell? ⟨b, off + j7 * 14 + 12, none⟩ = some (.slice x.block.ga x.block.guilts.length x.block.gc) := hc 12 _ rfl; have d13 : wr.cell? ⟨b, off + j7 * 14 + 13, none⟩ = some (.slice x.ba x.basis.length x.bc) := hc 13 _ rfl; clear hc; go_wp2_with fail; refine (rmotion_any x B _ g _ hWx7 (by unfold motionW at *; omega) hx hB).mono ?_; rintro e w90 ⟨rfl, hW90, hC90⟩; have hB90 := hC90.blk hBx7 (by omega) (by decide)
     have hT90 := hTx7.trans hC90; go_wp2_with fail
     go_roundw
     case rel => exact ⟨j7 + 1, by go_num, by omega, by rw [HSl.out]; exact hW90, hB90, hT90⟩
     case measure => simp [intOf]; omega
   have hji7 : ¬ (j7 : Int) < (ml.length : Int) := by omega
   rw [List.take_of_length_le (by omega)] at hWx7; have ll7 := fold_len Out.motion motionW Out.motion_lenW ml S6; obtain ⟨w7, rfl⟩ : ∃ x : World, x = wr := ⟨_, rfl⟩
   obtain ⟨hW7, hB7, hT7⟩ : Ref w7 g (ml.foldl Out.motion S6) ∧ Blk w7 w.heap.size 177 #[.int .i64 x1, .int .i64 x2, .int .i64 x3, .slice vA vl.length vc, .slice mA ml.length mc, .slice kA kl.length kc, .slice tA ts.length tc] ∧ Turned w w7 g := ⟨hWx7, hBx7, hTx7⟩
   clear hWx7 hBx7 hTx7 hlt7; generalize ml.foldl Out.motion S6 = S7 at *; have hlt7 := hB7.lt; have hgl7 := hW7.lt; have c7_0 := hB7.c 0 rfl; have c7_1 := hB7.c 1 rfl; have c7_2 := hB7.c 2 rfl; have c7_3 := hB7.c 3 rfl; have c7_4 := hB7.c 4 rfl; have c7_5 := hB7.c 5 rfl; have c7_6 := hB7.c 6 rfl; go_wp2_with fail; refine (rcount_any _ _ _ g _ hW7 (by omega)).mono ?_; rintro e w8 ⟨rfl, hW8, hC8⟩; have hB8 := hC8.blk hB7 (by omega) (by decide); have hT8 := hT7.trans hC8; have hlt8 := hB8.lt; have hgl8 := hW8.lt; have ll8 := (S7.lim kl.length 2).num_len kl.length; rw [HL_kl.out] at ll8; generalize (S7.lim kl.length 2).num kl.length = S8 at *; have c8_0 := hB8.c 0 rfl; have c8_1 := hB8.c 1 rfl; have c8_2 := hB8.c 2 rfl; have c8_3 := hB8.c 3 rfl; have c8_4 := hB8.c 4 rfl; have c8_5 := hB8.c 5 rfl; have c8_6 := hB8.c 6 rfl; go_wp2_with fail
   go_loopw [6] (fun i wr => ∃ j : Nat, i = .int .i64 (j : Int) ∧ j ≤ kl.length ∧ Ref wr g ((kl.take j).foldl Out.known S8) ∧ Blk wr w.heap.size 177 #[.int .i64 x1, .int .i64 x2, .int .i64 x3, .slice vA vl.length vc, .slice mA ml.length mc, .slice kA kl.length kc, .slice tA ts.length tc] ∧ Turned w wr g) (fun i _ => kl.length - (intOf i).toNat)
   case atStart => exact ⟨0, rfl, by omega, by simpa using hW8, hB8, hT8⟩
   case round =>
    obtain ⟨j9, rfl, hj9, hWx9, hBx9, hTx9⟩ := hrel; have hgx9 := hWx9.lt; have kx9 := hBx9.c 5 rfl
    by_cases hlt9 : j9 < kl.length
    ·as_aux_lemma =>
      have hji9 : (j9 : Int) < (kl.length : Int) := by omega
      obtain ⟨b, off, rfl, hbB, hc⟩ := KnownsL.at_ (hTx9.rd hxk hB) hlt9; have HSl := Lib.hid (fold_take Out.known S8 kl j9 hlt9); have hle := fold_len Out.known knownW Out.known_lenW (kl.take j9) S8; have hle2 := sumL_take knownW kl j9 hlt9; have hx := (hxk2 kl[j9] (List.getElem_mem hlt9)).below (hTx9.low.mono hB); generalize hxx : kl[j9] = x at *; clear hxx; have d0 : wr.cell? ⟨b, off + j9 * 17, none⟩ = some (.int .i64 x.cert.h) := hc 0 _ rfl; have d1 : wr.cell? ⟨b, off + j9 * 17 + 1, none⟩ = some (.int .i64 x.cert.r) := hc 1 _ rfl; have d2 : wr.cell? ⟨b, off + j9 * 17 + 2, none⟩ = some (.int .i64 x.cert.s) := hc 2 _ rfl; have d3 : wr.cell? ⟨b, off + j9 * 17 + 3, none⟩ = some (.bool x.cert.has) := hc 3 _ rfl; have d4 : wr.cell? ⟨b, off + j9 * 17 + 4, none⟩ = some (.int .u64 x.cert.b) := hc 4 _ rfl; have d5 : wr.cell? ⟨b, off + j9 * 17 + 5, none⟩ = some (.slice x.cert.fa x.cert.froms.length x.cert.fc) := hc 5 _ rfl; have d6 : wr.cell? ⟨b, off + j9 * 17 + 6, none⟩ = some (.int .i64 x.block.header.c) := hc 6 _ rfl; have d7 : wr.cell? ⟨b, off + j9 * 17 + 7, none⟩ = some (.int .i64 x.block.header.h) := hc 7 _ rfl; have d8 : wr.cell? ⟨b, off + j9 * 17 + 8, none⟩ = some (.int .u64 x.block.header.p) := hc 8 _ rfl; have d9 : wr.cell? ⟨b, off + j9 * 17 + 9, none⟩ = some (.int .u64 x.block.header.t) := hc 9 _ rfl; have d10 : wr.cell? ⟨b, off + j9 * 17 + 10, none⟩ = some (.int .u64 x.block.header.g) := hc 10 _ rfl; have d11 : wr.cell? ⟨b, off + j9 * 17 + 11, none⟩ = some (.int .u64 x.block.header.s) := hc 11 _ rfl; have d12 : wr.cell? ⟨b, off + j9 * 17 + 12, none⟩ = some (.int .u64 x.block.header.r) := hc 12 _ rfl; have d13 : wr.cell? ⟨b, off + j9 * 17 + 13, none⟩ = some (.int .u64 x.block.header.b) := hc 13 _ rfl; have d14 : wr.cell? ⟨b, off + j9 * 17 + 14, none⟩ = some (.int .i64 x.block.header.o) := hc 14 _ rfl; have d15 : wr.cell? ⟨b, off + j9 * 17 + 15, none⟩ = some (.slice x.block.ta x.block.txs.length x.block.tc) := hc 15 _ rfl
      have d16 : wr.cell? ⟨b, off + j9 * 17 + 16, none⟩ = some (.slice x.block.ga x.block.guilts.length x.block.gc) := hc 16 _ rfl; clear hc; go_wp2_with fail; refine (rknown_any x B _ g _ hWx9 (by unfold knownW at *; omega) hx hB).mono ?_; rintro e w90 ⟨rfl, hW90, hC90⟩; have hB90 := hC90.blk hBx9 (by omega) (by decide); have hT90 := hTx9.trans hC90; go_wp2_with fail
      go_roundw
      case rel => exact ⟨j9 + 1, by go_num, by omega, by rw [HSl.out]; exact hW90, hB90, hT90⟩
      case measure => simp [intOf]; omega
    have hji9 : ¬ (j9 : Int) < (kl.length : Int) := by omega
    rw [List.take_of_length_le (by omega)] at hWx9; have ll9 := fold_len Out.known knownW Out.known_lenW kl S8; obtain ⟨w9, rfl⟩ : ∃ x : World, x = wr := ⟨_, rfl⟩
    obtain ⟨hW9, hB9, hT9⟩ : Ref w9 g (kl.foldl Out.known S8) ∧ Blk w9 w.heap.size 177 #[.int .i64 x1, .int .i64 x2, .int .i64 x3, .slice vA vl.length vc, .slice mA ml.length mc, .slice kA kl.length kc, .slice tA ts.length tc] ∧ Turned w w9 g := ⟨hWx9, hBx9, hTx9⟩
    clear hWx9 hBx9 hTx9 hlt9; generalize kl.foldl Out.known S8 = S9 at *; have hlt9 := hB9.lt; have hgl9 := hW9.lt; have c9_0 := hB9.c 0 rfl; have c9_1 := hB9.c 1 rfl; have c9_2 := hB9.c 2 rfl; have c9_3 := hB9.c 3 rfl; have c9_4 := hB9.c 4 rfl; have c9_5 := hB9.c 5 rfl; have c9_6 := hB9.c 6 rfl; go_wp2_with fail; refine (rcount_any _ _ _ g _ hW9 (by omega)).mono ?_; rintro e w10 ⟨rfl, hW10, hC10⟩; have hB10 := hC10.blk hB9 (by omega) (by decide); have hT10 := hT9.trans hC10; have hlt10 := hB10.lt; have hgl10 := hW10.lt; have ll10 := (S9.lim ts.length 16).num_len ts.length; rw [HL_ts.out] at ll10; generalize (S9.lim ts.length 16).num ts.length = S10 at *; have c10_0 := hB10.c 0 rfl; have c10_1 := hB10.c 1 rfl; have c10_2 := hB10.c 2 rfl; have c10_3 := hB10.c 3 rfl; have c10_4 := hB10.c 4 rfl; have c10_5 := hB10.c 5 rfl; have c10_6 := hB10.c 6 rfl; go_wp2_with fail
    go_loopw [7] (fun i wr => ∃ j : Nat, i = .int .i64 (j : Int) ∧ j ≤ ts.length ∧ Ref wr g ((ts.take j).foldl Out.tx S10) ∧ Blk wr w.heap.size 177 #[.int .i64 x1, .int .i64 x2, .int .i64 x3, .slice vA vl.length vc, .slice mA ml.length mc, .slice kA kl.length kc, .slice tA ts.length tc] ∧ Turned w wr g) (fun i _ => ts.length - (intOf i).toNat)
    case atStart => exact ⟨0, rfl, by omega, by simpa using hW10, hB10, hT10⟩
    case round =>
     obtain ⟨j11, rfl, hj11, hWx11, hBx11, hTx11⟩ := hrel; have hgx11 := hWx11.lt; have kx11 := hBx11.c 6 rfl
     by_cases hlt11 : j11 < ts.length
     ·as_aux_lemma =>
       have hji11 : (j11 : Int) < (ts.length : Int) := by omega
       obtain ⟨b, off, rfl, hbB, hc⟩ := TxsL.at_ (hTx11.rd hxt hB) hlt11; have HSl := Lib.hid (fold_take Out.tx S10 ts j11 hlt11); have hle := fold_len Out.tx txW Out.tx_lenW (ts.take j11) S10; have hle2 := sumL_take txW ts j11 hlt11; have hx := (hxt2 ts[j11] (List.getElem_mem hlt11)).below (hTx11.low.mono hB); generalize hxx : ts[j11] = x at *; clear hxx; have d0 : wr.cell? ⟨b, off + j11 * 11, none⟩ = some (.int .i64 x.k) := hc 0 _ rfl; have d1 : wr.cell? ⟨b, off + j11 * 11 + 1, none⟩ = some (.int .i64 x.f) := hc 1 _ rfl; have d2 : wr.cell? ⟨b, off + j11 * 11 + 2, none⟩ = some (.int .i64 x.n) := hc 2 _ rfl; have d3 : wr.cell? ⟨b, off + j11 * 11 + 3, none⟩ = some (.int .i64 x.p) := hc 3 _ rfl; have d4 : wr.cell? ⟨b, off + j11 * 11 + 4, none⟩ = some (.int .i64 x.l) := hc 4 _ rfl; have d5 : wr.cell? ⟨b, off + j11 * 11 + 5, none⟩ = some (.int .i64 x.t) := hc 5 _ rfl; have d6 : wr.cell? ⟨b, off + j11 * 11 + 6, none⟩ = some (.int .i64 x.a) := hc 6 _ rfl; have d7 : wr.cell? ⟨b, off + j11 * 11 + 7, none⟩ = some (.string (bs x.text)) := hc 7 _ rfl; have d8 : wr.cell? ⟨b, off + j11 * 11 + 8, none⟩ = some (.slice x.aa x.args.length x.ac) := hc 8 _ rfl; have d9 : wr.cell? ⟨b, off + j11 * 11 + 9, none⟩ = some (.slice x.sa x.sights.length x.sc) := hc 9 _ rfl; have d10 : wr.cell? ⟨b, off + j11 * 11 + 10, none⟩ = some (.slice x.pa x.proofs.length x.pc) := hc 10 _ rfl; clear hc; go_wp2_with fail; refine (rtx_any x B _ g _ hWx11 (by unfold txW at *; omega) hx hB).mono ?_; rintro e w90 ⟨rfl, hW90, hC90⟩; have hB90 := hC90.blk hBx11 (by omega) (by decide); have hT90 := hTx11.trans hC90; go_wp2_with fail
       go_roundw
       case rel => exact ⟨j11 + 1, by go_num, by omega, by rw [HSl.out]; exact hW90, hB90, hT90⟩
       case measure => simp [intOf]; omega
     have hji11 : ¬ (j11 : Int) < (ts.length : Int) := by omega
     rw [List.take_of_length_le (by omega)] at hWx11; have ll11 := fold_len Out.tx txW Out.tx_lenW ts S10; obtain ⟨w11, rfl⟩ : ∃ x : World, x = wr := ⟨_, rfl⟩
     obtain ⟨hW11, hB11, hT11⟩ : Ref w11 g (ts.foldl Out.tx S10) ∧ Blk w11 w.heap.size 177 #[.int .i64 x1, .int .i64 x2, .int .i64 x3, .slice vA vl.length vc, .slice mA ml.length mc, .slice kA kl.length kc, .slice tA ts.length tc] ∧ Turned w w11 g := ⟨hWx11, hBx11, hTx11⟩
     clear hWx11 hBx11 hTx11 hlt11; generalize ts.foldl Out.tx S10 = S11 at *; have hlt11 := hB11.lt; have hgl11 := hW11.lt; have c11_0 := hB11.c 0 rfl; have c11_1 := hB11.c 1 rfl; have c11_2 := hB11.c 2 rfl; have c11_3 := hB11.c 3 rfl; have c11_4 := hB11.c 4 rfl; have c11_5 := hB11.c 5 rfl; have c11_6 := hB11.c 6 rfl; go_wp2_with fail
     all_goals
      refine (rneed_any _ _ g _ hW11).mono ?_; rintro e w12 ⟨rfl, hW12, hC12⟩; have hB12 := hC12.blk hB11 (by omega) (by decide); have hT12 := hT11.trans hC12; have hlt12 := hB12.lt; have hgl12 := hW12.lt; go_wp2_with fail
      go_end0
      exact ⟨rfl, Ref.eq hW12 (by rw [hE.out] <;> (first | rfl | (congr 1; grind))), hT12⟩
set_option maxRecDepth 100000 in
set_option maxHeartbeats 2000000 in
theorem write_message (x : MessageD) (B : Nat) (w : World) (hx : x.held w B) (hB : B ≤ w.heap.size) (hl : messageM x ≤ 10000000) :
  Calls Tryz.prog 201 #[x.val, .func (.func 199) #[] #[]] w fun e w' => e = .returned (.tuple #[.string (bs (Out.empty.message x).rs), .int .i64 (Out.empty.message x).re]) ∧ Below w.heap.size w w' := by
 obtain ⟨x1, x2, x3, vl, vA, vc, ml, mA, mc, kl, kA, kc, ts, tA, tc⟩ := x; dsimp only [MessageD.val]; go_enter Tryz.func201, Tryz.ntmps201; go_wp2_with fail; refine (wmessage_any ⟨x1, x2, x3, vl, vA, vc, ml, mA, mc, kl, kA, kc, ts, tA, tc⟩ B _ (w.heap.size + 1) _ (by have hN := Wrt.new (w.alloc (.cells #[.int .i64 x1, .int .i64 x2, .int .i64 x3, .slice vA vl.length vc, .slice mA ml.length mc, .slice kA kl.length kc, .slice tA ts.length tc] 177)); simpa using hN) (by simp [Out.empty]; omega) (by first | exact hx.below (((Below.refl B w).alloc hB _).alloc (by simp; omega) _) | exact hx) (by omega)).mono ?_; rintro e w1 ⟨rfl, ⟨v, hb, ho⟩, hT1⟩; have hgl := hb.lt; have hS := hT1.size; have hBel : Below w.heap.size w w1 := (((Below.refl _ _).alloc (Nat.le_refl _) _).alloc (by simp) _ |>.trans (hT1.low.mono (by omega)))
 generalize hSE : Out.empty.message ⟨x1, x2, x3, vl, vA, vc, ml, mA, mc, kl, kA, kc, ts, tA, tc⟩ = S1 at *; have HSE := Lib.hid hSE; clear hSE; have c0 := hb.c 0 rfl; have c1 := hb.c 1 rfl; have c2 := hb.c 2 rfl; have hcv := conv_own w1 ho; clear hb ho; obtain ⟨b, far, odd⟩ := S1; dsimp only at *; cases far
 ·cases odd
  ·go_wp2_with fail
   go_ret2
   exact ⟨by rw [HSE.out]; rfl, hBel⟩
  ·go_wp2_with fail
   go_ret2
   exact ⟨by rw [HSE.out]; rfl, hBel⟩
 ·go_wp2_with fail
  go_ret2
  exact ⟨by rw [HSE.out]; rfl, hBel⟩
set_option maxRecDepth 100000 in
theorem put_message (x : MessageD) (B : Nat) (w : World) (hx : x.held w B) (hB : B ≤ w.heap.size) (hl : messageM x ≤ 10000000) :
  Calls Tryz.prog 118 #[x.val] w fun e w' => e = .returned (.tuple #[.string (bs (Out.empty.message x).rs), .int .i64 (Out.empty.message x).re]) ∧ Below w.heap.size w w' := by
 have hWr := write_message x B (w.alloc (.cells #[.int .i64 x.f, .int .i64 x.t, .int .i64 x.h, .slice x.va x.votes.length x.vc, .slice x.ma x.motions.length x.mc, .slice x.ka x.knowns.length x.kc, .slice x.xa x.txs.length x.xc] 177)) (by first | exact hx | exact hx.below ((Below.refl B w).alloc hB _)) (by simp; omega) hl; generalize Out.empty.message x = S1 at *; obtain ⟨x1, x2, x3, vl, vA, vc, ml, mA, mc, kl, kA, kc, ts, tA, tc⟩ := x; dsimp only [MessageD.val] at *; go_enter Tryz.func118, Tryz.ntmps118; go_wp2_with fail; refine hWr.mono ?_; rintro e w1 ⟨rfl, hb⟩; go_wp2_with fail
 go_ret2
 exact ⟨rfl, ((Below.refl _ _).alloc (Nat.le_refl _) _).trans (hb.mono (by simp))⟩
set_option maxRecDepth 100000 in
set_option maxHeartbeats 2000000 in
theorem rput_message (x : MessageD) (B : Nat) (w : World) (hx : x.held w B) (hB : B ≤ w.heap.size) (hl : messageM x ≤ 10000000) :
  Calls Tryz.prog 119 #[x.val] w fun e w' => e = .returned (.tuple #[.string (bs (Out.empty.message x).rs), .int .i64 (Out.empty.message x).re]) ∧ Below w.heap.size w w' := by
 obtain ⟨x1, x2, x3, vl, vA, vc, ml, mA, mc, kl, kA, kc, ts, tA, tc⟩ := x; dsimp only [MessageD.val]; go_enter Tryz.func119, Tryz.ntmps119; go_wp2_with fail; refine (rmessage_any ⟨x1, x2, x3, vl, vA, vc, ml, mA, mc, kl, kA, kc, ts, tA, tc⟩ B _ (w.heap.size + 1) _ (by have hN := Ref.new (w.alloc (.cells #[.int .i64 x1, .int .i64 x2, .int .i64 x3, .slice vA vl.length vc, .slice mA ml.length mc, .slice kA kl.length kc, .slice tA ts.length tc] 177)); simpa using hN) (by simp [Out.empty]; omega) (by first | exact hx.below (((Below.refl B w).alloc hB _).alloc (by simp; omega) _) | exact hx) (by omega)).mono ?_; rintro e w1 ⟨rfl, hW1, hT1⟩; have hgl1 := hW1.lt; have hS := hT1.size; have hBel : Below w.heap.size w w1 := (((Below.refl _ _).alloc (Nat.le_refl _) _).alloc (by simp) _ |>.trans (hT1.low.mono (by omega)))
 go_wp2_with fail; refine (rout_any _ _ _ hW1).mono ?_; rintro e w9 ⟨rfl, rfl⟩; go_wp2_with fail
 go_ret2
 exact ⟨rfl, hBel⟩
end Go.Proofs.YtjhaafbbdgjagaaGreat
