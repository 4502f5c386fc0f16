/- Of the texts RecR, WrM, WrN, PutM, PutB. -/
import Derived.Test.YtjhaafbbdgjagaaGreatProg
import Derived.Test.YtjhaafbbdgjagaaGreatG36
import Derived.Test.YtjhaafbbdgjagaaGreatG29
import Derived.Test.YtjhaafbbdgjagaaGreatG27
set_option linter.unusedSimpArgs false
set_option linter.unusedVariables false
namespace Go.Proofs.YtjhaafbbdgjagaaGreat
open Go.RowKit
set_option maxRecDepth 100000 in
set_option maxHeartbeats 8000000 in
theorem rrecord_any (x : RecordD) (B : Nat) (w : World) (g : Nat) (S : Out) (h : Ref w g S) (hl : S.b.length + 40 * recordM x ≤ 58999999930000) (hx : x.held w B) (hB : B ≤ g) :
    Calls Tryz.prog 142 #[.pointer (some ⟨g, 0, none⟩), x.val] w fun e w' => e = .returned (.tuple #[]) ∧ Ref w' g (S.record x) ∧ Turned w w' g := by
  have hgt := h.lt
  obtain ⟨x1, ⟨v1, v2, v3, v4, v5, v6⟩, ⟨m1, m2, ⟨⟨h1, h2, h3, h4, h5, h6, h7, h8, h9⟩, ts, tA, tc, gs, gA, gc⟩, bl, bA, bc⟩, ⟨⟨c1, c2, c3, c4, c5, c6, c6a, c6c⟩, ⟨⟨k1, k2, k3, k4, k5, k6, k7, k8, k9⟩, us, uA, uc, qs, qA, qc⟩⟩⟩ := x
  simp only [recordM] at hl
  try dsimp only at hl
  obtain ⟨hxv, hxm, hxk⟩ := hx
  dsimp only at hxv hxm hxk
  dsimp only [RecordD.val]
  go_enter Tryz.func142, Tryz.ntmps142
  go_wp2_with fail
  generalize Value.agg #[.int .i64 x1, .int .i64 v1, .int .i64 v2, .int .i64 v3, .bool v4, .int .u64 v5, .int .i64 v6, .int .i64 m1, .int .i64 m2, .int .i64 h1, .int .i64 h2, .int .u64 h3, .int .u64 h4, .int .u64 h5, .int .u64 h6, .int .u64 h7, .int .u64 h8, .int .i64 h9, .slice tA ts.length tc, .slice gA gs.length gc, .slice bA bl.length bc, .int .i64 c1, .int .i64 c2, .int .i64 c3, .bool c4, .int .u64 c5, .slice c6a c6.length c6c, .int .i64 k1, .int .i64 k2, .int .u64 k3, .int .u64 k4, .int .u64 k5, .int .u64 k6, .int .u64 k7, .int .u64 k8, .int .i64 k9, .slice uA us.length uc, .slice qA qs.length qc] = V
  refine (rnumber_any _ _ g _ (h.alloc _) (by omega)).mono ?_
  rintro e w1 ⟨rfl, hW1, hC1⟩
  have hB1 := hC1.blk (Blk.new _ _ _) (by omega) (by decide)
  have hT1 := ((Turned.refl w g).alloc (by omega) _).trans hC1
  have hlt1 := hB1.lt
  have hgl1 := hW1.lt
  have ll1 := S.num_len x1
  generalize hS1 : S.num x1 = S1 at *
  have HS1 := Lib.hid hS1
  clear hS1
  have c1_0 := hB1.c 0 rfl
  have c1_1 := hB1.c 1 rfl
  have c1_2 := hB1.c 2 rfl
  have c1_3 := hB1.c 3 rfl
  have c1_4 := hB1.c 4 rfl
  have c1_5 := hB1.c 5 rfl
  have c1_6 := hB1.c 6 rfl
  have c1_7 := hB1.c 7 rfl
  have c1_8 := hB1.c 8 rfl
  have c1_9 := hB1.c 9 rfl
  have c1_10 := hB1.c 10 rfl
  have c1_11 := hB1.c 11 rfl
  have c1_12 := hB1.c 12 rfl
  have c1_13 := hB1.c 13 rfl
  have c1_14 := hB1.c 14 rfl
  have c1_15 := hB1.c 15 rfl
  have c1_16 := hB1.c 16 rfl
  have c1_17 := hB1.c 17 rfl
  have c1_18 := hB1.c 18 rfl
  have c1_19 := hB1.c 19 rfl
  have c1_20 := hB1.c 20 rfl
  have c1_21 := hB1.c 21 rfl
  have c1_22 := hB1.c 22 rfl
  have c1_23 := hB1.c 23 rfl
  have c1_24 := hB1.c 24 rfl
  have c1_25 := hB1.c 25 rfl
  have c1_26 := hB1.c 26 rfl
  have c1_27 := hB1.c 27 rfl
  have c1_28 := hB1.c 28 rfl
  have c1_29 := hB1.c 29 rfl
  have c1_30 := hB1.c 30 rfl
  have c1_31 := hB1.c 31 rfl
  have c1_32 := hB1.c 32 rfl
  have c1_33 := hB1.c 33 rfl
  have c1_34 := hB1.c 34 rfl
  have c1_35 := hB1.c 35 rfl
  have c1_36 := hB1.c 36 rfl
  have c1_37 := hB1.c 37 rfl
  go_upto_region 2 with fail
  go_cut [18] (fun x wc => x = .tuple #[] ∧ Ref wc g (S1.need (decide (1 ≤ x1) && decide (x1 ≤ 4))) ∧ Blk wc w.heap.size 66 #[.int .i64 x1, .int .i64 v1, .int .i64 v2, .int .i64 v3, .bool v4, .int .u64 v5, .int .i64 v6, .int .i64 m1, .int .i64 m2, .int .i64 h1, .int .i64 h2, .int .u64 h3, .int .u64 h4, .int .u64 h5, .int .u64 h6, .int .u64 h7, .int .u64 h8, .int .i64 h9, .slice tA ts.length tc, .slice gA gs.length gc, .slice bA bl.length bc, .int .i64 c1, .int .i64 c2, .int .i64 c3, .bool c4, .int .u64 c5, .slice c6a c6.length c6c, .int .i64 k1, .int .i64 k2, .int .u64 k3, .int .u64 k4, .int .u64 k5, .int .u64 k6, .int .u64 k7, .int .u64 k8, .int .i64 k9, .slice uA us.length uc, .slice qA qs.length qc] ∧ Turned w wc g)
  case first =>
   as_aux_lemma =>
    go_wp2_with fail
    all_goals
      refine (rneed_any _ _ g _ hW1).mono ?_
      rintro e w2 ⟨rfl, hW2, hC2⟩
      go_wp2_with fail
      go_meet
      exact ⟨rfl, hW2.eq (by congr 1; first | rfl | grind | grind [emp]), hC2.blk hB1 (by omega) (by decide), hT1.trans hC2⟩
  case rest =>
    as_aux_lemma =>
      obtain ⟨w2, rfl⟩ : ∃ x : World, x = wc := ⟨_, rfl⟩
      obtain ⟨rfl, hW2, hB2, hT2⟩ := hcut
      have hlt2 := hB2.lt
      have hgl2 := hW2.lt
      have ll2 : (S1.need (decide (1 ≤ x1) && decide (x1 ≤ 4))).b.length = S1.b.length := rfl
      generalize hS2 : S1.need (decide (1 ≤ x1) && decide (x1 ≤ 4)) = S2 at *
      have HS2 := Lib.hid hS2
      clear hS2
      have c2_0 := hB2.c 0 rfl
      have c2_1 := hB2.c 1 rfl
      have c2_2 := hB2.c 2 rfl
      have c2_3 := hB2.c 3 rfl
      have c2_4 := hB2.c 4 rfl
      have c2_5 := hB2.c 5 rfl
      have c2_6 := hB2.c 6 rfl
      have c2_7 := hB2.c 7 rfl
      have c2_8 := hB2.c 8 rfl
      have c2_9 := hB2.c 9 rfl
      have c2_10 := hB2.c 10 rfl
      have c2_11 := hB2.c 11 rfl
      have c2_12 := hB2.c 12 rfl
      have c2_13 := hB2.c 13 rfl
      have c2_14 := hB2.c 14 rfl
      have c2_15 := hB2.c 15 rfl
      have c2_16 := hB2.c 16 rfl
      have c2_17 := hB2.c 17 rfl
      have c2_18 := hB2.c 18 rfl
      have c2_19 := hB2.c 19 rfl
      have c2_20 := hB2.c 20 rfl
      have c2_21 := hB2.c 21 rfl
      have c2_22 := hB2.c 22 rfl
      have c2_23 := hB2.c 23 rfl
      have c2_24 := hB2.c 24 rfl
      have c2_25 := hB2.c 25 rfl
      have c2_26 := hB2.c 26 rfl
      have c2_27 := hB2.c 27 rfl
      have c2_28 := hB2.c 28 rfl
      have c2_29 := hB2.c 29 rfl
      have c2_30 := hB2.c 30 rfl
      have c2_31 := hB2.c 31 rfl
      have c2_32 := hB2.c 32 rfl
      have c2_33 := hB2.c 33 rfl
      have c2_34 := hB2.c 34 rfl
      have c2_35 := hB2.c 35 rfl
      have c2_36 := hB2.c 36 rfl
      have c2_37 := hB2.c 37 rfl
      go_upto_region 3 with fail
      go_cut [4] (fun zx wc => zx = .bool (decide (x1 = 3) || decide (x1 = 4)) ∧ Ref wc g S2 ∧ Blk wc w.heap.size 66 #[.int .i64 x1, .int .i64 v1, .int .i64 v2, .int .i64 v3, .bool v4, .int .u64 v5, .int .i64 v6, .int .i64 m1, .int .i64 m2, .int .i64 h1, .int .i64 h2, .int .u64 h3, .int .u64 h4, .int .u64 h5, .int .u64 h6, .int .u64 h7, .int .u64 h8, .int .i64 h9, .slice tA ts.length tc, .slice gA gs.length gc, .slice bA bl.length bc, .int .i64 c1, .int .i64 c2, .int .i64 c3, .bool c4, .int .u64 c5, .slice c6a c6.length c6c, .int .i64 k1, .int .i64 k2, .int .u64 k3, .int .u64 k4, .int .u64 k5, .int .u64 k6, .int .u64 k7, .int .u64 k8, .int .i64 k9, .slice uA us.length uc, .slice qA qs.length qc] ∧ Turned w wc g)
      case first =>
       as_aux_lemma =>
        go_wp2_with fail
        all_goals
          go_meet
          exact ⟨by first | rfl | (simp [*, eqb]; done) | (simp_all [eqb]; done), hW2, hB2, hT2⟩
      case rest =>
       as_aux_lemma =>
        obtain ⟨w3, rfl⟩ : ∃ x : World, x = wc := ⟨_, rfl⟩
        obtain ⟨rfl, hW3, hB3, hT3⟩ := hcut
        have hlt3 := hB3.lt
        have hgl3 := hW3.lt
        generalize hkn : (decide (x1 = 3) || decide (x1 = 4)) = kn at *
        have HKN := Lib.hid hkn
        clear hkn
        have c3_0 := hB3.c 0 rfl
        have c3_1 := hB3.c 1 rfl
        have c3_2 := hB3.c 2 rfl
        have c3_3 := hB3.c 3 rfl
        have c3_4 := hB3.c 4 rfl
        have c3_5 := hB3.c 5 rfl
        have c3_6 := hB3.c 6 rfl
        have c3_7 := hB3.c 7 rfl
        have c3_8 := hB3.c 8 rfl
        have c3_9 := hB3.c 9 rfl
        have c3_10 := hB3.c 10 rfl
        have c3_11 := hB3.c 11 rfl
        have c3_12 := hB3.c 12 rfl
        have c3_13 := hB3.c 13 rfl
        have c3_14 := hB3.c 14 rfl
        have c3_15 := hB3.c 15 rfl
        have c3_16 := hB3.c 16 rfl
        have c3_17 := hB3.c 17 rfl
        have c3_18 := hB3.c 18 rfl
        have c3_19 := hB3.c 19 rfl
        have c3_20 := hB3.c 20 rfl
        have c3_21 := hB3.c 21 rfl
        have c3_22 := hB3.c 22 rfl
        have c3_23 := hB3.c 23 rfl
        have c3_24 := hB3.c 24 rfl
        have c3_25 := hB3.c 25 rfl
        have c3_26 := hB3.c 26 rfl
        have c3_27 := hB3.c 27 rfl
        have c3_28 := hB3.c 28 rfl
        have c3_29 := hB3.c 29 rfl
        have c3_30 := hB3.c 30 rfl
        have c3_31 := hB3.c 31 rfl
        have c3_32 := hB3.c 32 rfl
        have c3_33 := hB3.c 33 rfl
        have c3_34 := hB3.c 34 rfl
        have c3_35 := hB3.c 35 rfl
        have c3_36 := hB3.c 36 rfl
        have c3_37 := hB3.c 37 rfl
        go_upto_region 4 with fail
        go_cut [37] (fun zx wc => zx = .tuple #[] ∧ Ref wc g (S2.need (decide (x1 = 1) || noVote ⟨v1, v2, v3, v4, v5, v6⟩)) ∧ Blk wc w.heap.size 66 #[.int .i64 x1, .int .i64 v1, .int .i64 v2, .int .i64 v3, .bool v4, .int .u64 v5, .int .i64 v6, .int .i64 m1, .int .i64 m2, .int .i64 h1, .int .i64 h2, .int .u64 h3, .int .u64 h4, .int .u64 h5, .int .u64 h6, .int .u64 h7, .int .u64 h8, .int .i64 h9, .slice tA ts.length tc, .slice gA gs.length gc, .slice bA bl.length bc, .int .i64 c1, .int .i64 c2, .int .i64 c3, .bool c4, .int .u64 c5, .slice c6a c6.length c6c, .int .i64 k1, .int .i64 k2, .int .u64 k3, .int .u64 k4, .int .u64 k5, .int .u64 k6, .int .u64 k7, .int .u64 k8, .int .i64 k9, .slice uA us.length uc, .slice qA qs.length qc] ∧ Turned w wc g)
        case first =>
         as_aux_lemma =>
          have hK1 : Hid (noVote ⟨v1, v2, v3, v4, v5, v6⟩ = (decide (v1 = 0) && decide (v2 = 0) && decide (v3 = 0) && !v4 && decide (v5 = 0) && decide (v6 = 0))) := rfl
          go_wp2_with fail
          all_goals
            refine (rneed_any _ _ g _ hW3).mono ?_
            rintro e w4 ⟨rfl, hW4, hC4⟩
            go_wp2_with fail
            go_meet
            exact ⟨rfl, hW4.eq (by congr 1; rw [hK1.out]; first | rfl | grind | (simp_all; done)), hC4.blk hB3 (by omega) (by decide), hT3.trans hC4⟩
        case rest =>
         as_aux_lemma =>
      
          obtain ⟨w4, rfl⟩ : ∃ x : World, x = wc := ⟨_, rfl⟩
          obtain ⟨rfl, hW4, hB4, hT4⟩ := hcut
          have hlt4 := hB4.lt
          have hgl4 := hW4.lt
          have ll4 : (S2.need (decide (x1 = 1) || noVote ⟨v1, v2, v3, v4, v5, v6⟩)).b.length = S2.b.length := rfl
          generalize hS4 : S2.need (decide (x1 = 1) || noVote ⟨v1, v2, v3, v4, v5, v6⟩) = S4 at *
          have HS4 := Lib.hid hS4
          clear hS4
          have c4_0 := hB4.c 0 rfl
          have c4_1 := hB4.c 1 rfl
          have c4_2 := hB4.c 2 rfl
          have c4_3 := hB4.c 3 rfl
          have c4_4 := hB4.c 4 rfl
          have c4_5 := hB4.c 5 rfl
          have c4_6 := hB4.c 6 rfl
          have c4_7 := hB4.c 7 rfl
          have c4_8 := hB4.c 8 rfl
          have c4_9 := hB4.c 9 rfl
          have c4_10 := hB4.c 10 rfl
          have c4_11 := hB4.c 11 rfl
          have c4_12 := hB4.c 12 rfl
          have c4_13 := hB4.c 13 rfl
          have c4_14 := hB4.c 14 rfl
          have c4_15 := hB4.c 15 rfl
          have c4_16 := hB4.c 16 rfl
          have c4_17 := hB4.c 17 rfl
          have c4_18 := hB4.c 18 rfl
          have c4_19 := hB4.c 19 rfl
          have c4_20 := hB4.c 20 rfl
          have c4_21 := hB4.c 21 rfl
          have c4_22 := hB4.c 22 rfl
          have c4_23 := hB4.c 23 rfl
          have c4_24 := hB4.c 24 rfl
          have c4_25 := hB4.c 25 rfl
          have c4_26 := hB4.c 26 rfl
          have c4_27 := hB4.c 27 rfl
          have c4_28 := hB4.c 28 rfl
          have c4_29 := hB4.c 29 rfl
          have c4_30 := hB4.c 30 rfl
          have c4_31 := hB4.c 31 rfl
          have c4_32 := hB4.c 32 rfl
          have c4_33 := hB4.c 33 rfl
          have c4_34 := hB4.c 34 rfl
          have c4_35 := hB4.c 35 rfl
          have c4_36 := hB4.c 36 rfl
          have c4_37 := hB4.c 37 rfl
          go_upto_region 5 with fail
          go_cut [68] (fun zx wc => zx = .tuple #[] ∧ Ref wc g (S4.need (decide (x1 = 2) || noMotion ⟨m1, m2, ⟨⟨h1, h2, h3, h4, h5, h6, h7, h8, h9⟩, ts, tA, tc, gs, gA, gc⟩, bl, bA, bc⟩)) ∧ Blk wc w.heap.size 66 #[.int .i64 x1, .int .i64 v1, .int .i64 v2, .int .i64 v3, .bool v4, .int .u64 v5, .int .i64 v6, .int .i64 m1, .int .i64 m2, .int .i64 h1, .int .i64 h2, .int .u64 h3, .int .u64 h4, .int .u64 h5, .int .u64 h6, .int .u64 h7, .int .u64 h8, .int .i64 h9, .slice tA ts.length tc, .slice gA gs.length gc, .slice bA bl.length bc, .int .i64 c1, .int .i64 c2, .int .i64 c3, .bool c4, .int .u64 c5, .slice c6a c6.length c6c, .int .i64 k1, .int .i64 k2, .int .u64 k3, .int .u64 k4, .int .u64 k5, .int .u64 k6, .int .u64 k7, .int .u64 k8, .int .i64 k9, .slice uA us.length uc, .slice qA qs.length qc] ∧ Turned w wc g)
          case first =>
           as_aux_lemma =>
            have hK1 : Hid (noMotion ⟨m1, m2, ⟨⟨h1, h2, h3, h4, h5, h6, h7, h8, h9⟩, ts, tA, tc, gs, gA, gc⟩, bl, bA, bc⟩ = (decide (m1 = 0) && decide (m2 = 0) && noBlock ⟨⟨h1, h2, h3, h4, h5, h6, h7, h8, h9⟩, ts, tA, tc, gs, gA, gc⟩ && ((bl.length : Int) == 0))) := by show _ = _; rw [len0]; rfl
            have hnb := fun W => emptyBlock_any ⟨⟨h1, h2, h3, h4, h5, h6, h7, h8, h9⟩, ts, tA, tc, gs, gA, gc⟩ W
            dsimp only [BlockD.val] at hnb
            generalize noBlock ⟨⟨h1, h2, h3, h4, h5, h6, h7, h8, h9⟩, ts, tA, tc, gs, gA, gc⟩ = nb at *
            go_wp2_with fail
            all_goals first
              | (with_reducible refine (rneed_any _ _ g _ hW4).mono ?_
                 rintro e w5 ⟨rfl, hW5, hC5⟩
                 go_wp2_with fail
                 go_meet
                 exact ⟨rfl, hW5.eq (by congr 1; rw [hK1.out]; first | rfl | grind | (simp_all; done)), hC5.blk hB4 (by omega) (by decide), hT4.trans hC5⟩)
              | (with_reducible refine (hnb _).mono ?_
                 rintro e w8 ⟨rfl, hb8⟩
                 have hW8 := hW4.below hb8
                 have hB8 := hB4.below hb8 hB4.lt
                 have hT8 := hT4.ofBelow hb8 (by omega)
                 have hsz8 := hb8.size
                 have k8_7 : w8.cell? ⟨w.heap.size, 7, none⟩ = some (Value.int .i64 m1) := (hB8.cell 7).trans rfl
                 have k8_8 : w8.cell? ⟨w.heap.size, 8, none⟩ = some (Value.int .i64 m2) := (hB8.cell 8).trans rfl
                 have k8_20 : w8.cell? ⟨w.heap.size, 20, none⟩ = some (Value.slice bA bl.length bc) := (hB8.cell 20).trans rfl
                 cases nb
                 all_goals
                   as_aux_lemma =>
                   go_wp2_with fail
                   all_goals
                     refine (rneed_any _ _ g _ hW8).mono ?_
                     rintro e w9 ⟨rfl, hW9, hC9⟩
                     go_wp2_with fail
                     go_meet
                     exact ⟨rfl, hW9.eq (by congr 1; rw [hK1.out]; first | rfl | grind | (simp_all; done)), hC9.blk hB8 (by omega) (by decide), hT8.trans hC9⟩)
          case rest =>
           as_aux_lemma =>
      
            obtain ⟨w5, rfl⟩ : ∃ x : World, x = wc := ⟨_, rfl⟩
            obtain ⟨rfl, hW5, hB5, hT5⟩ := hcut
            have hlt5 := hB5.lt
            have hgl5 := hW5.lt
            have ll5 : (S4.need (decide (x1 = 2) || noMotion ⟨m1, m2, ⟨⟨h1, h2, h3, h4, h5, h6, h7, h8, h9⟩, ts, tA, tc, gs, gA, gc⟩, bl, bA, bc⟩)).b.length = S4.b.length := rfl
            generalize hS5 : S4.need (decide (x1 = 2) || noMotion ⟨m1, m2, ⟨⟨h1, h2, h3, h4, h5, h6, h7, h8, h9⟩, ts, tA, tc, gs, gA, gc⟩, bl, bA, bc⟩) = S5 at *
            have HS5 := Lib.hid hS5
            clear hS5
            have c5_0 := hB5.c 0 rfl
            have c5_1 := hB5.c 1 rfl
            have c5_2 := hB5.c 2 rfl
            have c5_3 := hB5.c 3 rfl
            have c5_4 := hB5.c 4 rfl
            have c5_5 := hB5.c 5 rfl
            have c5_6 := hB5.c 6 rfl
            have c5_7 := hB5.c 7 rfl
            have c5_8 := hB5.c 8 rfl
            have c5_9 := hB5.c 9 rfl
            have c5_10 := hB5.c 10 rfl
            have c5_11 := hB5.c 11 rfl
            have c5_12 := hB5.c 12 rfl
            have c5_13 := hB5.c 13 rfl
            have c5_14 := hB5.c 14 rfl
            have c5_15 := hB5.c 15 rfl
            have c5_16 := hB5.c 16 rfl
            have c5_17 := hB5.c 17 rfl
            have c5_18 := hB5.c 18 rfl
            have c5_19 := hB5.c 19 rfl
            have c5_20 := hB5.c 20 rfl
            have c5_21 := hB5.c 21 rfl
            have c5_22 := hB5.c 22 rfl
            have c5_23 := hB5.c 23 rfl
            have c5_24 := hB5.c 24 rfl
            have c5_25 := hB5.c 25 rfl
            have c5_26 := hB5.c 26 rfl
            have c5_27 := hB5.c 27 rfl
            have c5_28 := hB5.c 28 rfl
            have c5_29 := hB5.c 29 rfl
            have c5_30 := hB5.c 30 rfl
            have c5_31 := hB5.c 31 rfl
            have c5_32 := hB5.c 32 rfl
            have c5_33 := hB5.c 33 rfl
            have c5_34 := hB5.c 34 rfl
            have c5_35 := hB5.c 35 rfl
            have c5_36 := hB5.c 36 rfl
            have c5_37 := hB5.c 37 rfl
            go_upto_region 6 with fail
            go_cut [86] (fun zx wc => zx = .tuple #[] ∧ Ref wc g (S5.need (decide (x1 = 3) || decide (x1 = 4) || noKnown ⟨⟨c1, c2, c3, c4, c5, c6, c6a, c6c⟩, ⟨⟨k1, k2, k3, k4, k5, k6, k7, k8, k9⟩, us, uA, uc, qs, qA, qc⟩⟩)) ∧ Blk wc w.heap.size 66 #[.int .i64 x1, .int .i64 v1, .int .i64 v2, .int .i64 v3, .bool v4, .int .u64 v5, .int .i64 v6, .int .i64 m1, .int .i64 m2, .int .i64 h1, .int .i64 h2, .int .u64 h3, .int .u64 h4, .int .u64 h5, .int .u64 h6, .int .u64 h7, .int .u64 h8, .int .i64 h9, .slice tA ts.length tc, .slice gA gs.length gc, .slice bA bl.length bc, .int .i64 c1, .int .i64 c2, .int .i64 c3, .bool c4, .int .u64 c5, .slice c6a c6.length c6c, .int .i64 k1, .int .i64 k2, .int .u64 k3, .int .u64 k4, .int .u64 k5, .int .u64 k6, .int .u64 k7, .int .u64 k8, .int .i64 k9, .slice uA us.length uc, .slice qA qs.length qc] ∧ Turned w wc g)
            case first =>
             as_aux_lemma =>
              have hK1 : Hid (noKnown ⟨⟨c1, c2, c3, c4, c5, c6, c6a, c6c⟩, ⟨⟨k1, k2, k3, k4, k5, k6, k7, k8, k9⟩, us, uA, uc, qs, qA, qc⟩⟩ = (noCert ⟨c1, c2, c3, c4, c5, c6, c6a, c6c⟩ && noBlock ⟨⟨k1, k2, k3, k4, k5, k6, k7, k8, k9⟩, us, uA, uc, qs, qA, qc⟩)) := rfl
              have hnb := fun W => emptyBlock_any ⟨⟨k1, k2, k3, k4, k5, k6, k7, k8, k9⟩, us, uA, uc, qs, qA, qc⟩ W
              have hnc := fun W => emptyCert_any ⟨c1, c2, c3, c4, c5, c6, c6a, c6c⟩ W
              dsimp only [BlockD.val, CertD.val] at hnb hnc
              generalize noBlock ⟨⟨k1, k2, k3, k4, k5, k6, k7, k8, k9⟩, us, uA, uc, qs, qA, qc⟩ = nb at *
              generalize noCert ⟨c1, c2, c3, c4, c5, c6, c6a, c6c⟩ = nc at *
              cases kn
              all_goals
                as_aux_lemma =>
                have hkk := HKN.out
                clear HKN
                go_wp2_with fail
                all_goals first
                  | (with_reducible refine (rneed_any _ _ g _ hW5).mono ?_
                     rintro e w6 ⟨rfl, hW6, hC6⟩
                     go_wp2_with fail
                     go_meet
                     exact ⟨rfl, hW6.eq (by congr 1; rw [hK1.out]; first | rfl | grind | (simp_all; done)), hC6.blk hB5 (by omega) (by decide), hT5.trans hC6⟩)
                  | (with_reducible refine (hnc _).mono ?_
                     rintro e w8 ⟨rfl, hb8⟩
                     have hW8 := hW5.below hb8
                     have hB8 := hB5.below hb8 hB5.lt
                     have hT8 := hT5.ofBelow hb8 (by omega)
                     have hsz8 := hb8.size
                     have k8_6 : w8.cell? ⟨w.heap.size, 27, none⟩ = some (Value.int .i64 k1) := (hB8.cell 27).trans rfl
                     have k8_7 : w8.cell? ⟨w.heap.size, 28, none⟩ = some (Value.int .i64 k2) := (hB8.cell 28).trans rfl
                     have k8_8 : w8.cell? ⟨w.heap.size, 29, none⟩ = some (Value.int .u64 k3) := (hB8.cell 29).trans rfl
                     have k8_9 : w8.cell? ⟨w.heap.size, 30, none⟩ = some (Value.int .u64 k4) := (hB8.cell 30).trans rfl
                     have k8_10 : w8.cell? ⟨w.heap.size, 31, none⟩ = some (Value.int .u64 k5) := (hB8.cell 31).trans rfl
                     have k8_11 : w8.cell? ⟨w.heap.size, 32, none⟩ = some (Value.int .u64 k6) := (hB8.cell 32).trans rfl
                     have k8_12 : w8.cell? ⟨w.heap.size, 33, none⟩ = some (Value.int .u64 k7) := (hB8.cell 33).trans rfl
                     have k8_13 : w8.cell? ⟨w.heap.size, 34, none⟩ = some (Value.int .u64 k8) := (hB8.cell 34).trans rfl
                     have k8_14 : w8.cell? ⟨w.heap.size, 35, none⟩ = some (Value.int .i64 k9) := (hB8.cell 35).trans rfl
                     have k8_15 : w8.cell? ⟨w.heap.size, 36, none⟩ = some (Value.slice uA us.length uc) := (hB8.cell 36).trans rfl
                     have k8_16 : w8.cell? ⟨w.heap.size, 37, none⟩ = some (Value.slice qA qs.length qc) := (hB8.cell 37).trans rfl
                     cases nc
                     all_goals
                       as_aux_lemma =>
                       go_wp2_with fail
                       all_goals first
                         | (with_reducible refine (rneed_any _ _ g _ hW8).mono ?_
                            rintro e w10 ⟨rfl, hW10, hC10⟩
                            go_wp2_with fail
                            go_meet
                            exact ⟨rfl, hW10.eq (by congr 1; rw [hK1.out]; first | rfl | grind | (simp_all; done)), hC10.blk hB8 (by omega) (by decide), hT8.trans hC10⟩)
                         | (with_reducible refine (hnb _).mono ?_
                            rintro e w9 ⟨rfl, hb9⟩
                            have hW9 := hW8.below hb9
                            have hB9 := hB8.below hb9 hB8.lt
                            have hT9 := hT8.ofBelow hb9 (by omega)
                            have hsz9 := hb9.size
                            cases nb
                            all_goals
                              as_aux_lemma =>
                              go_wp2_with fail
                              all_goals
                                refine (rneed_any _ _ g _ hW9).mono ?_
                                rintro e w11 ⟨rfl, hW11, hC11⟩
                                go_wp2_with fail
                                go_meet
                                exact ⟨rfl, hW11.eq (by congr 1; rw [hK1.out]; first | rfl | grind | (simp_all; done)), hC11.blk hB9 (by omega) (by decide), hT9.trans hC11⟩))
            case rest =>
             as_aux_lemma =>
      
              obtain ⟨w6, rfl⟩ : ∃ x : World, x = wc := ⟨_, rfl⟩
              obtain ⟨rfl, hW6, hB6, hT6⟩ := hcut
              have hlt6 := hB6.lt
              have hgl6 := hW6.lt
              have ll6 : (S5.need (decide (x1 = 3) || decide (x1 = 4) || noKnown ⟨⟨c1, c2, c3, c4, c5, c6, c6a, c6c⟩, ⟨⟨k1, k2, k3, k4, k5, k6, k7, k8, k9⟩, us, uA, uc, qs, qA, qc⟩⟩)).b.length = S5.b.length := rfl
              generalize hS6 : S5.need (decide (x1 = 3) || decide (x1 = 4) || noKnown ⟨⟨c1, c2, c3, c4, c5, c6, c6a, c6c⟩, ⟨⟨k1, k2, k3, k4, k5, k6, k7, k8, k9⟩, us, uA, uc, qs, qA, qc⟩⟩) = S6 at *
              have HS6 := Lib.hid hS6
              clear hS6
              have c6_0 := hB6.c 0 rfl
              have c6_1 := hB6.c 1 rfl
              have c6_2 := hB6.c 2 rfl
              have c6_3 := hB6.c 3 rfl
              have c6_4 := hB6.c 4 rfl
              have c6_5 := hB6.c 5 rfl
              have c6_6 := hB6.c 6 rfl
              have c6_7 := hB6.c 7 rfl
              have c6_8 := hB6.c 8 rfl
              have c6_9 := hB6.c 9 rfl
              have c6_10 := hB6.c 10 rfl
              have c6_11 := hB6.c 11 rfl
              have c6_12 := hB6.c 12 rfl
              have c6_13 := hB6.c 13 rfl
              have c6_14 := hB6.c 14 rfl
              have c6_15 := hB6.c 15 rfl
              have c6_16 := hB6.c 16 rfl
              have c6_17 := hB6.c 17 rfl
              have c6_18 := hB6.c 18 rfl
              have c6_19 := hB6.c 19 rfl
              have c6_20 := hB6.c 20 rfl
              have c6_21 := hB6.c 21 rfl
              have c6_22 := hB6.c 22 rfl
              have c6_23 := hB6.c 23 rfl
              have c6_24 := hB6.c 24 rfl
              have c6_25 := hB6.c 25 rfl
              have c6_26 := hB6.c 26 rfl
              have c6_27 := hB6.c 27 rfl
              have c6_28 := hB6.c 28 rfl
              have c6_29 := hB6.c 29 rfl
              have c6_30 := hB6.c 30 rfl
              have c6_31 := hB6.c 31 rfl
              have c6_32 := hB6.c 32 rfl
              have c6_33 := hB6.c 33 rfl
              have c6_34 := hB6.c 34 rfl
              have c6_35 := hB6.c 35 rfl
              have c6_36 := hB6.c 36 rfl
              have c6_37 := hB6.c 37 rfl
              have hF : Hid (S.record ⟨x1, ⟨v1, v2, v3, v4, v5, v6⟩, ⟨m1, m2, ⟨⟨h1, h2, h3, h4, h5, h6, h7, h8, h9⟩, ts, tA, tc, gs, gA, gc⟩, bl, bA, bc⟩, ⟨⟨c1, c2, c3, c4, c5, c6, c6a, c6c⟩, ⟨⟨k1, k2, k3, k4, k5, k6, k7, k8, k9⟩, us, uA, uc, qs, qA, qc⟩⟩⟩ = S6.what ⟨x1, ⟨v1, v2, v3, v4, v5, v6⟩, ⟨m1, m2, ⟨⟨h1, h2, h3, h4, h5, h6, h7, h8, h9⟩, ts, tA, tc, gs, gA, gc⟩, bl, bA, bc⟩, ⟨⟨c1, c2, c3, c4, c5, c6, c6a, c6c⟩, ⟨⟨k1, k2, k3, k4, k5, k6, k7, k8, k9⟩, us, uA, uc, qs, qA, qc⟩⟩⟩) := by
                show _ = _
                rw [← HS6.out, ← HS5.out, ← HS4.out, ← HS2.out, ← HS1.out]
                rfl
              have hWh : Hid (S6.what ⟨x1, ⟨v1, v2, v3, v4, v5, v6⟩, ⟨m1, m2, ⟨⟨h1, h2, h3, h4, h5, h6, h7, h8, h9⟩, ts, tA, tc, gs, gA, gc⟩, bl, bA, bc⟩, ⟨⟨c1, c2, c3, c4, c5, c6, c6a, c6c⟩, ⟨⟨k1, k2, k3, k4, k5, k6, k7, k8, k9⟩, us, uA, uc, qs, qA, qc⟩⟩⟩ = if x1 = 1 then S6.vote ⟨v1, v2, v3, v4, v5, v6⟩ else if x1 = 2 then S6.motion ⟨m1, m2, ⟨⟨h1, h2, h3, h4, h5, h6, h7, h8, h9⟩, ts, tA, tc, gs, gA, gc⟩, bl, bA, bc⟩ else if x1 = 3 ∨ x1 = 4 then S6.known ⟨⟨c1, c2, c3, c4, c5, c6, c6a, c6c⟩, ⟨⟨k1, k2, k3, k4, k5, k6, k7, k8, k9⟩, us, uA, uc, qs, qA, qc⟩⟩ else S6) := rfl
              rw [hWh.out] at hF
              clear hWh
              by_cases d1 : x1 = 1
              · rw [if_pos d1] at hF
                have d1b : (x1 == 1) = true := by simp [d1]
                have d3b : kn = false := by rw [← HKN.out]; simp [d1]
                subst d3b
                go_wp2_with fail
                refine (rvote_any ⟨v1, v2, v3, v4, v5, v6⟩ hxv _ g _ hW6 (by omega)).mono ?_
                rintro e w7 ⟨rfl, hW7, hC7⟩
                have c7_0 := ((hC7.blk hB6 (by omega) (by decide)).cell 0).trans (show _ = some (Value.int .i64 x1) from rfl)
                go_wp2_with fail
                go_end0
                exact ⟨rfl, hW7.eq hF.out.symm, hT6.trans hC7⟩
              have d1b : (x1 == 1) = false := by simpa using d1
              rw [if_neg d1] at hF
              by_cases d2 : x1 = 2
              · rw [if_pos d2] at hF
                have d2b : (x1 == 2) = true := by simp [d2]
                have d3b : kn = false := by rw [← HKN.out]; simp [d2]
                subst d3b
                go_wp2_with fail
                refine (rmotion_any ⟨m1, m2, ⟨⟨h1, h2, h3, h4, h5, h6, h7, h8, h9⟩, ts, tA, tc, gs, gA, gc⟩, bl, bA, bc⟩ B _ g _ hW6 (by omega) (hxm.below (hT6.low.mono hB)) hB).mono ?_
                rintro e w7 ⟨rfl, hW7, hC7⟩
                have c7_0 := ((hC7.blk hB6 (by omega) (by decide)).cell 0).trans (show _ = some (Value.int .i64 x1) from rfl)
                go_wp2_with fail
                go_end0
                exact ⟨rfl, hW7.eq hF.out.symm, hT6.trans hC7⟩
              have d2b : (x1 == 2) = false := by simpa using d2
              rw [if_neg d2] at hF
              by_cases d3 : x1 = 3 ∨ x1 = 4
              · rw [if_pos d3] at hF
                have d3b : kn = true := by rw [← HKN.out]; simpa using d3
                subst d3b
                go_wp2_with fail
                all_goals
                  refine (rknown_any ⟨⟨c1, c2, c3, c4, c5, c6, c6a, c6c⟩, ⟨⟨k1, k2, k3, k4, k5, k6, k7, k8, k9⟩, us, uA, uc, qs, qA, qc⟩⟩ B _ g _ hW6 (by omega) (hxk.below (hT6.low.mono hB)) hB).mono ?_
                  rintro e w7 ⟨rfl, hW7, hC7⟩
                  go_wp2_with fail
                  go_end0
                  exact ⟨rfl, hW7.eq hF.out.symm, hT6.trans hC7⟩
              have d3b : kn = false := by rw [← HKN.out]; simpa using d3
              subst d3b
              have d3c : (x1 == 3) = false := by simp; omega
              have d4c : (x1 == 4) = false := by simp; omega
              rw [if_neg d3] at hF
              go_wp2_with fail
              go_end0
              exact ⟨rfl, hW6.eq hF.out.symm, hT6⟩
end Go.Proofs.YtjhaafbbdgjagaaGreat
