/- Of the texts RecW, PutR. -/
import Derived.Test.YtjhaafbbdgjagaaGreatProg
import Derived.Test.YtjhaafbbdgjagaaGreatG36
import Derived.Test.YtjhaafbbdgjagaaGreatG29
import Derived.Test.YtjhaafbbdgjagaaGreatG04
import Derived.Test.YtjhaafbbdgjagaaGreatG27
import Derived.Test.YtjhaafbbdgjagaaGreatG37
set_option linter.unusedSimpArgs false
set_option linter.unusedVariables false
namespace Go.Proofs.YtjhaafbbdgjagaaGreat
open Go.RowKit
theorem Wrt.below {w w' : World} {g : Nat} {S : Out} (h : Wrt w g S) (hb : Below w.heap.size w w') : Wrt w' g S := by
 have hg := h.lt; obtain ⟨v, hB, ho⟩ := h; exact ⟨v, hB.below hb hg, own_below ho hb⟩
set_option maxRecDepth 100000 in
set_option maxHeartbeats 8000000 in
theorem wrecord_any (x : RecordD) (B : Nat) (w : World) (g : Nat) (S : Out) (h : Wrt w g S) (hl : S.b.length + 40 * recordM x ≤ 58999999930000) (hx : x.held w B) (hB : B ≤ g) :
    Calls Tryz.prog 144 #[.pointer (some ⟨g, 0, none⟩), x.val] w fun e w' => e = .returned (.tuple #[]) ∧ Wrt w' g (S.record x) ∧ Turned w w' g := by
  have hgt := h.lt
  obtain ⟨x1, ⟨v1, v2, v3, v4, v5, v6⟩, ⟨m1, m2, ⟨⟨h1, h2, h3, h4, h5, h6, h7, h8, h9⟩, ts, tA, tc, gs, gA, gc⟩, bl, bA, bc⟩, ⟨⟨c1, c2, c3, c4, c5, c6, c6a, c6c⟩, ⟨⟨k1, k2, k3, k4, k5, k6, k7, k8, k9⟩, us, uA, uc, qs, qA, qc⟩⟩⟩ := x
  simp only [recordM] at hl
  try dsimp only at hl
  obtain ⟨hxv, hxm, hxk⟩ := hx
  dsimp only at hxv hxm hxk
  dsimp only [RecordD.val]
  go_enter Tryz.func144, Tryz.ntmps144
  go_wp2_with fail
  generalize Value.agg #[.int .i64 x1, .int .i64 v1, .int .i64 v2, .int .i64 v3, .bool v4, .int .u64 v5, .int .i64 v6, .int .i64 m1, .int .i64 m2, .int .i64 h1, .int .i64 h2, .int .u64 h3, .int .u64 h4, .int .u64 h5, .int .u64 h6, .int .u64 h7, .int .u64 h8, .int .i64 h9, .slice tA ts.length tc, .slice gA gs.length gc, .slice bA bl.length bc, .int .i64 c1, .int .i64 c2, .int .i64 c3, .bool c4, .int .u64 c5, .slice c6a c6.length c6c, .int .i64 k1, .int .i64 k2, .int .u64 k3, .int .u64 k4, .int .u64 k5, .int .u64 k6, .int .u64 k7, .int .u64 k8, .int .i64 k9, .slice uA us.length uc, .slice qA qs.length qc] = V
  refine (number_any _ _ g _ (h.alloc _) (by omega)).mono ?_
  rintro e w1 ⟨rfl, hW1, hC1⟩
  have hB1 := hC1.blk (Blk.new _ _ _) (by omega) (by decide)
  have hT1 := ((Turned.refl w g).alloc (by omega) _).trans hC1
  have hlt1 := hB1.lt
  have hgl1 := hW1.lt
  have ll1 := S.num_len x1
  generalize hS1 : S.num x1 = S1 at *
  have HS1 := Lib.hid hS1
  clear hS1
  have c1_0 := hB1.c 0 rfl
  have c1_1 := hB1.c 1 rfl
  have c1_2 := hB1.c 2 rfl
  have c1_3 := hB1.c 3 rfl
  have c1_4 := hB1.c 4 rfl
  have c1_5 := hB1.c 5 rfl
  have c1_6 := hB1.c 6 rfl
  have c1_7 := hB1.c 7 rfl
  have c1_8 := hB1.c 8 rfl
  have c1_9 := hB1.c 9 rfl
  have c1_10 := hB1.c 10 rfl
  have c1_11 := hB1.c 11 rfl
  have c1_12 := hB1.c 12 rfl
  have c1_13 := hB1.c 13 rfl
  have c1_14 := hB1.c 14 rfl
  have c1_15 := hB1.c 15 rfl
  have c1_16 := hB1.c 16 rfl
  have c1_17 := hB1.c 17 rfl
  have c1_18 := hB1.c 18 rfl
  have c1_19 := hB1.c 19 rfl
  have c1_20 := hB1.c 20 rfl
  have c1_21 := hB1.c 21 rfl
  have c1_22 := hB1.c 22 rfl
  have c1_23 := hB1.c 23 rfl
  have c1_24 := hB1.c 24 rfl
  have c1_25 := hB1.c 25 rfl
  have c1_26 := hB1.c 26 rfl
  have c1_27 := hB1.c 27 rfl
  have c1_28 := hB1.c 28 rfl
  have c1_29 := hB1.c 29 rfl
  have c1_30 := hB1.c 30 rfl
  have c1_31 := hB1.c 31 rfl
  have c1_32 := hB1.c 32 rfl
  have c1_33 := hB1.c 33 rfl
  have c1_34 := hB1.c 34 rfl
  have c1_35 := hB1.c 35 rfl
  have c1_36 := hB1.c 36 rfl
  have c1_37 := hB1.c 37 rfl
  go_upto_region 2 with fail
  go_cut [19] (fun x wc => x = .tuple #[] ∧ Wrt wc g (S1.need (decide (1 ≤ x1) && decide (x1 ≤ 4))) ∧ Blk wc w.heap.size 66 #[.int .i64 x1, .int .i64 v1, .int .i64 v2, .int .i64 v3, .bool v4, .int .u64 v5, .int .i64 v6, .int .i64 m1, .int .i64 m2, .int .i64 h1, .int .i64 h2, .int .u64 h3, .int .u64 h4, .int .u64 h5, .int .u64 h6, .int .u64 h7, .int .u64 h8, .int .i64 h9, .slice tA ts.length tc, .slice gA gs.length gc, .slice bA bl.length bc, .int .i64 c1, .int .i64 c2, .int .i64 c3, .bool c4, .int .u64 c5, .slice c6a c6.length c6c, .int .i64 k1, .int .i64 k2, .int .u64 k3, .int .u64 k4, .int .u64 k5, .int .u64 k6, .int .u64 k7, .int .u64 k8, .int .i64 k9, .slice uA us.length uc, .slice qA qs.length qc] ∧ Turned w wc g)
  case first =>
   as_aux_lemma =>
    go_wp2_with fail
    all_goals
      refine (need_any _ _ g _ hW1).mono ?_
      rintro e w2 ⟨rfl, hW2, hC2⟩
      go_wp2_with fail
      go_meet
      exact ⟨rfl, hW2.eq (by congr 1; first | rfl | grind | grind [emp]), hC2.blk hB1 (by omega) (by decide), hT1.trans hC2⟩
  case rest =>
    as_aux_lemma =>
      obtain ⟨w2, rfl⟩ : ∃ x : World, x = wc := ⟨_, rfl⟩
      obtain ⟨rfl, hW2, hB2, hT2⟩ := hcut
      have hlt2 := hB2.lt
      have hgl2 := hW2.lt
      have ll2 : (S1.need (decide (1 ≤ x1) && decide (x1 ≤ 4))).b.length = S1.b.length := rfl
      generalize hS2 : S1.need (decide (1 ≤ x1) && decide (x1 ≤ 4)) = S2 at *
      have HS2 := Lib.hid hS2
      clear hS2
      have c2_0 := hB2.c 0 rfl
      have c2_1 := hB2.c 1 rfl
      have c2_2 := hB2.c 2 rfl
      have c2_3 := hB2.c 3 rfl
      have c2_4 := hB2.c 4 rfl
      have c2_5 := hB2.c 5 rfl
      have c2_6 := hB2.c 6 rfl
      have c2_7 := hB2.c 7 rfl
      have c2_8 := hB2.c 8 rfl
      have c2_9 := hB2.c 9 rfl
      have c2_10 := hB2.c 10 rfl
      have c2_11 := hB2.c 11 rfl
      have c2_12 := hB2.c 12 rfl
      have c2_13 := hB2.c 13 rfl
      have c2_14 := hB2.c 14 rfl
      have c2_15 := hB2.c 15 rfl
      have c2_16 := hB2.c 16 rfl
      have c2_17 := hB2.c 17 rfl
      have c2_18 := hB2.c 18 rfl
      have c2_19 := hB2.c 19 rfl
      have c2_20 := hB2.c 20 rfl
      have c2_21 := hB2.c 21 rfl
      have c2_22 := hB2.c 22 rfl
      have c2_23 := hB2.c 23 rfl
      have c2_24 := hB2.c 24 rfl
      have c2_25 := hB2.c 25 rfl
      have c2_26 := hB2.c 26 rfl
      have c2_27 := hB2.c 27 rfl
      have c2_28 := hB2.c 28 rfl
      have c2_29 := hB2.c 29 rfl
      have c2_30 := hB2.c 30 rfl
      have c2_31 := hB2.c 31 rfl
      have c2_32 := hB2.c 32 rfl
      have c2_33 := hB2.c 33 rfl
      have c2_34 := hB2.c 34 rfl
      have c2_35 := hB2.c 35 rfl
      have c2_36 := hB2.c 36 rfl
      have c2_37 := hB2.c 37 rfl
      go_upto_region 3 with fail
      go_cut [4, 5] (fun p q wc => ∃ P Q : Nat, p = .pointer (some ⟨P, 0, none⟩) ∧ q = .pointer (some ⟨Q, 0, none⟩) ∧ g < P ∧ g < Q ∧ Wrt wc g S2 ∧ Blk wc w.heap.size 66 #[.int .i64 x1, .int .i64 v1, .int .i64 v2, .int .i64 v3, .bool v4, .int .u64 v5, .int .i64 v6, .int .i64 m1, .int .i64 m2, .int .i64 h1, .int .i64 h2, .int .u64 h3, .int .u64 h4, .int .u64 h5, .int .u64 h6, .int .u64 h7, .int .u64 h8, .int .i64 h9, .slice tA ts.length tc, .slice gA gs.length gc, .slice bA bl.length bc, .int .i64 c1, .int .i64 c2, .int .i64 c3, .bool c4, .int .u64 c5, .slice c6a c6.length c6c, .int .i64 k1, .int .i64 k2, .int .u64 k3, .int .u64 k4, .int .u64 k5, .int .u64 k6, .int .u64 k7, .int .u64 k8, .int .i64 k9, .slice uA us.length uc, .slice qA qs.length qc] ∧ Blk wc P 59 #[.int .i64 m1, .int .i64 m2, .int .i64 h1, .int .i64 h2, .int .u64 h3, .int .u64 h4, .int .u64 h5, .int .u64 h6, .int .u64 h7, .int .u64 h8, .int .i64 h9, .slice tA ts.length tc, .slice gA gs.length gc, .slice bA bl.length bc] ∧ Blk wc Q 64 #[.int .i64 c1, .int .i64 c2, .int .i64 c3, .bool c4, .int .u64 c5, .slice c6a c6.length c6c, .int .i64 k1, .int .i64 k2, .int .u64 k3, .int .u64 k4, .int .u64 k5, .int .u64 k6, .int .u64 k7, .int .u64 k8, .int .i64 k9, .slice uA us.length uc, .slice qA qs.length qc] ∧ Turned w wc g)
      case first =>
       as_aux_lemma =>
        have hsz := hT2.size
        refine wp_region_held_drew (S := fun W => Below w2.heap.size w2 W) (by kernel_rfl) (Below.refl _ _).drew (fun hHeld => ?_)
        refine wpAnyH_take (i := 0) (v := ?_) rfl (by kernel_rfl) (by kernel_rfl) (by kernel_rfl) (fun _ _ _ h => h) (Or.inl ⟨by rfl, ?_⟩) (by assumption) ?_
        rotate_left
        · intro w' hSw
          (try dsimp only at hSw)
          go_simp
          try with_reducible rfl
        try simp only [Act.put, List.setIfInBounds_toArray, List.set_cons_zero, List.set_cons_succ]
        refine wpAnyH_take (i := 2) (v := ?_) rfl (by kernel_rfl) (by kernel_rfl) (by kernel_rfl) (fun _ _ _ h => h) (Or.inl ⟨by rfl, ?_⟩) (by assumption) ?_
        rotate_left
        · intro w' hSw
          (try dsimp only at hSw)
          go_simp
          try with_reducible rfl
        try simp only [Act.put, List.setIfInBounds_toArray, List.set_cons_zero, List.set_cons_succ]
        refine wpAnyH_take (i := 1) (v := .agg #[.int .i64 m1, .int .i64 m2, .int .i64 h1, .int .i64 h2, .int .u64 h3, .int .u64 h4, .int .u64 h5, .int .u64 h6, .int .u64 h7, .int .u64 h8, .int .i64 h9, .slice tA ts.length tc, .slice gA gs.length gc, .slice bA bl.length bc]) rfl (by kernel_rfl) (by kernel_rfl) (by kernel_rfl) (fun _ _ _ h => h) (yieldsIf_load_mid (by rfl) _ _ rfl _ _ rfl [.int .i64 m1, .int .i64 m2, .int .i64 h1, .int .i64 h2, .int .u64 h3, .int .u64 h4, .int .u64 h5, .int .u64 h6, .int .u64 h7, .int .u64 h8, .int .i64 h9, .slice tA ts.length tc, .slice gA gs.length gc, .slice bA bl.length bc] _ (fun W hW => ?_) Tryz.underlying59 rfl (by kernel_rfl)) (by assumption) ?_
        · exact (World.rangeAt_of_block (hB2.below hW hlt2) 7 14)
        try simp only [Act.put, List.setIfInBounds_toArray, List.set_cons_zero, List.set_cons_succ]
        refine wpAnyH_take (i := 3) (v := .agg #[.int .i64 c1, .int .i64 c2, .int .i64 c3, .bool c4, .int .u64 c5, .slice c6a c6.length c6c, .int .i64 k1, .int .i64 k2, .int .u64 k3, .int .u64 k4, .int .u64 k5, .int .u64 k6, .int .u64 k7, .int .u64 k8, .int .i64 k9, .slice uA us.length uc, .slice qA qs.length qc]) rfl (by kernel_rfl) (by kernel_rfl) (by kernel_rfl) (fun _ _ _ h => h) (yieldsIf_load_mid (by rfl) _ _ rfl _ _ rfl [.int .i64 c1, .int .i64 c2, .int .i64 c3, .bool c4, .int .u64 c5, .slice c6a c6.length c6c, .int .i64 k1, .int .i64 k2, .int .u64 k3, .int .u64 k4, .int .u64 k5, .int .u64 k6, .int .u64 k7, .int .u64 k8, .int .i64 k9, .slice uA us.length uc, .slice qA qs.length qc] _ (fun W hW => ?_) Tryz.underlying64 rfl (by kernel_rfl)) (by assumption) ?_
        · exact (World.rangeAt_of_block (hB2.below hW hlt2) 21 17)
        try simp only [Act.put, List.setIfInBounds_toArray, List.set_cons_zero, List.set_cons_succ]
        refine wpAnyH_ready (rs := [4, 5]) (by kernel_rfl) (by simp) ?_
        refine AllReadyH.cons rfl (fun K hK => ?_) (AllReadyH.cons rfl (fun K hK => ?_) AllReadyH.nil)
        · go_simp
          refine hK.out _ _ (hHeld.alloc (Nat.le_refl _) _) (fun hHeld1 => ?_)
          clear hK K
          try simp only [Act.put, List.setIfInBounds_toArray, List.set_cons_zero, List.set_cons_succ]
          refine gen_world (P := fun W => wpAnyH _ _ _ _ _ _ _ _ W) _ (fun W' => Below w2.heap.size w2 W' ∧ w2.heap.size < W'.heap.size ∧ Blk W' w2.heap.size 59 #[.int .i64 0, .int .i64 0, .int .i64 0, .int .i64 0, .int .u64 0, .int .u64 0, .int .u64 0, .int .u64 0, .int .u64 0, .int .u64 0, .int .i64 0, .slice none 0 0, .slice none 0 0, .slice none 0 0]) ⟨hHeld1, by simp, Blk.new _ _ _⟩ ?_
          clear hHeld hHeld1
          rintro W1 ⟨hH1, hn1, hp1⟩
          refine wpAnyH_ready (rs := [5]) (by kernel_rfl) (by simp) ?_
          refine AllReadyH.cons rfl (fun K hK => ?_) AllReadyH.nil
          go_simp
          refine hK.out _ _ (hH1.alloc (Nat.le_of_lt hn1) _) (fun hHeld => ?_)
          clear hK K
          try simp only [Act.put, List.setIfInBounds_toArray, List.set_cons_zero, List.set_cons_succ]
          refine gen_world (P := fun W => wpAnyH _ _ _ _ _ _ _ _ W) _ (fun W' => Below w2.heap.size w2 W' ∧ Blk W' w2.heap.size 59 #[.int .i64 0, .int .i64 0, .int .i64 0, .int .i64 0, .int .u64 0, .int .u64 0, .int .u64 0, .int .u64 0, .int .u64 0, .int .u64 0, .int .i64 0, .slice none 0 0, .slice none 0 0, .slice none 0 0] ∧ Blk W' W1.heap.size 64 #[.int .i64 0, .int .i64 0, .int .i64 0, .bool false, .int .u64 0, .slice none 0 0, .int .i64 0, .int .i64 0, .int .u64 0, .int .u64 0, .int .u64 0, .int .u64 0, .int .u64 0, .int .u64 0, .int .i64 0, .slice none 0 0, .slice none 0 0]) ⟨hHeld, hp1.alloc _, Blk.new _ _ _⟩ ?_
          clear hHeld hp1
          rintro W2 ⟨hH2, hp2, hq2⟩
          refine wpAnyH_ready (rs := [6]) (by kernel_rfl) (by simp) ?_
          refine AllReadyH.cons rfl (fun K hK => ?_) AllReadyH.nil
          rw [if_pos (by rfl)]
          refine wp_store_mid _ _ _ rfl w2.heap.size 0 #[.int .i64 m1, .int .i64 m2, .int .i64 h1, .int .i64 h2, .int .u64 h3, .int .u64 h4, .int .u64 h5, .int .u64 h6, .int .u64 h7, .int .u64 h8, .int .i64 h9, .slice tA ts.length tc, .slice gA gs.length gc, .slice bA bl.length bc] rfl rfl (hp2.there rfl) (by kernel_rfl) (all_oneCell_toArray (by simp [Value.oneCell'])) ?_
          refine hK.out _ _ (below_setCells (by omega) _ _ _ hH2) (fun hHeld => ?_)
          clear hK K
          try simp only [Act.put, List.setIfInBounds_toArray, List.set_cons_zero, List.set_cons_succ]
          refine gen_world (P := fun W => wpAnyH _ _ _ _ _ _ _ _ W) _ (fun W' => Below w2.heap.size w2 W' ∧ Blk W' w2.heap.size 59 #[.int .i64 m1, .int .i64 m2, .int .i64 h1, .int .i64 h2, .int .u64 h3, .int .u64 h4, .int .u64 h5, .int .u64 h6, .int .u64 h7, .int .u64 h8, .int .i64 h9, .slice tA ts.length tc, .slice gA gs.length gc, .slice bA bl.length bc] ∧ Blk W' W1.heap.size 64 #[.int .i64 0, .int .i64 0, .int .i64 0, .bool false, .int .u64 0, .slice none 0 0, .int .i64 0, .int .i64 0, .int .u64 0, .int .u64 0, .int .u64 0, .int .u64 0, .int .u64 0, .int .u64 0, .int .i64 0, .slice none 0 0, .slice none 0 0]) ⟨hHeld, hp2.whole rfl, hq2.beside (by omega) _ _ _⟩ ?_
          clear hHeld hH2 hp2 hq2
          rintro W3 ⟨hH3, hp3, hq3⟩
          refine wpAnyH_ready (rs := [7]) (by kernel_rfl) (by simp) ?_
          refine AllReadyH.cons rfl (fun K hK => ?_) AllReadyH.nil
          rw [if_pos (by rfl)]
          refine wp_store_mid _ _ _ rfl W1.heap.size 0 #[.int .i64 c1, .int .i64 c2, .int .i64 c3, .bool c4, .int .u64 c5, .slice c6a c6.length c6c, .int .i64 k1, .int .i64 k2, .int .u64 k3, .int .u64 k4, .int .u64 k5, .int .u64 k6, .int .u64 k7, .int .u64 k8, .int .i64 k9, .slice uA us.length uc, .slice qA qs.length qc] rfl rfl (hq3.there rfl) (by kernel_rfl) (all_oneCell_toArray (by simp [Value.oneCell'])) ?_
          refine hK.out _ _ (below_setCells (by omega) _ _ _ hH3) (fun hHeld => ?_)
          clear hK K
          try simp only [Act.put, List.setIfInBounds_toArray, List.set_cons_zero, List.set_cons_succ]
          refine gen_world (P := fun W => wpAnyH _ _ _ _ _ _ _ _ W) _ (fun W' => Below w2.heap.size w2 W' ∧ Blk W' w2.heap.size 59 #[.int .i64 m1, .int .i64 m2, .int .i64 h1, .int .i64 h2, .int .u64 h3, .int .u64 h4, .int .u64 h5, .int .u64 h6, .int .u64 h7, .int .u64 h8, .int .i64 h9, .slice tA ts.length tc, .slice gA gs.length gc, .slice bA bl.length bc] ∧ Blk W' W1.heap.size 64 #[.int .i64 c1, .int .i64 c2, .int .i64 c3, .bool c4, .int .u64 c5, .slice c6a c6.length c6c, .int .i64 k1, .int .i64 k2, .int .u64 k3, .int .u64 k4, .int .u64 k5, .int .u64 k6, .int .u64 k7, .int .u64 k8, .int .i64 k9, .slice uA us.length uc, .slice qA qs.length qc]) ⟨hHeld, hp3.beside (by omega) _ _ _, hq3.whole rfl⟩ ?_
          clear hHeld hH3 hp3 hq3
          rintro W4 ⟨hH4, hp4, hq4⟩
          refine wpAnyH_done (by kernel_rfl) ?_ _
          go_wp2_with fail
          go_meet
          exact ⟨w2.heap.size, W1.heap.size, rfl, rfl, by omega, by omega, hW2.below hH4, hB2.below hH4 hlt2, hp4, hq4, hT2.ofBelow hH4 (by omega)⟩
        · go_simp
          refine hK.out _ _ (hHeld.alloc (Nat.le_refl _) _) (fun hHeld1 => ?_)
          clear hK K
          try simp only [Act.put, List.setIfInBounds_toArray, List.set_cons_zero, List.set_cons_succ]
          refine gen_world (P := fun W => wpAnyH _ _ _ _ _ _ _ _ W) _ (fun W' => Below w2.heap.size w2 W' ∧ w2.heap.size < W'.heap.size ∧ Blk W' w2.heap.size 64 #[.int .i64 0, .int .i64 0, .int .i64 0, .bool false, .int .u64 0, .slice none 0 0, .int .i64 0, .int .i64 0, .int .u64 0, .int .u64 0, .int .u64 0, .int .u64 0, .int .u64 0, .int .u64 0, .int .i64 0, .slice none 0 0, .slice none 0 0]) ⟨hHeld1, by simp, Blk.new _ _ _⟩ ?_
          clear hHeld hHeld1
          rintro W1 ⟨hH1, hn1, hp1⟩
          refine wpAnyH_ready (rs := [4]) (by kernel_rfl) (by simp) ?_
          refine AllReadyH.cons rfl (fun K hK => ?_) AllReadyH.nil
          go_simp
          refine hK.out _ _ (hH1.alloc (Nat.le_of_lt hn1) _) (fun hHeld => ?_)
          clear hK K
          try simp only [Act.put, List.setIfInBounds_toArray, List.set_cons_zero, List.set_cons_succ]
          refine gen_world (P := fun W => wpAnyH _ _ _ _ _ _ _ _ W) _ (fun W' => Below w2.heap.size w2 W' ∧ Blk W' w2.heap.size 64 #[.int .i64 0, .int .i64 0, .int .i64 0, .bool false, .int .u64 0, .slice none 0 0, .int .i64 0, .int .i64 0, .int .u64 0, .int .u64 0, .int .u64 0, .int .u64 0, .int .u64 0, .int .u64 0, .int .i64 0, .slice none 0 0, .slice none 0 0] ∧ Blk W' W1.heap.size 59 #[.int .i64 0, .int .i64 0, .int .i64 0, .int .i64 0, .int .u64 0, .int .u64 0, .int .u64 0, .int .u64 0, .int .u64 0, .int .u64 0, .int .i64 0, .slice none 0 0, .slice none 0 0, .slice none 0 0]) ⟨hHeld, hp1.alloc _, Blk.new _ _ _⟩ ?_
          clear hHeld hp1
          rintro W2 ⟨hH2, hp2, hq2⟩
          refine wpAnyH_ready (rs := [6]) (by kernel_rfl) (by simp) ?_
          refine AllReadyH.cons rfl (fun K hK => ?_) AllReadyH.nil
          rw [if_pos (by rfl)]
          refine wp_store_mid _ _ _ rfl W1.heap.size 0 #[.int .i64 m1, .int .i64 m2, .int .i64 h1, .int .i64 h2, .int .u64 h3, .int .u64 h4, .int .u64 h5, .int .u64 h6, .int .u64 h7, .int .u64 h8, .int .i64 h9, .slice tA ts.length tc, .slice gA gs.length gc, .slice bA bl.length bc] rfl rfl (hq2.there rfl) (by kernel_rfl) (all_oneCell_toArray (by simp [Value.oneCell'])) ?_
          refine hK.out _ _ (below_setCells (by omega) _ _ _ hH2) (fun hHeld => ?_)
          clear hK K
          try simp only [Act.put, List.setIfInBounds_toArray, List.set_cons_zero, List.set_cons_succ]
          refine gen_world (P := fun W => wpAnyH _ _ _ _ _ _ _ _ W) _ (fun W' => Below w2.heap.size w2 W' ∧ Blk W' w2.heap.size 64 #[.int .i64 0, .int .i64 0, .int .i64 0, .bool false, .int .u64 0, .slice none 0 0, .int .i64 0, .int .i64 0, .int .u64 0, .int .u64 0, .int .u64 0, .int .u64 0, .int .u64 0, .int .u64 0, .int .i64 0, .slice none 0 0, .slice none 0 0] ∧ Blk W' W1.heap.size 59 #[.int .i64 m1, .int .i64 m2, .int .i64 h1, .int .i64 h2, .int .u64 h3, .int .u64 h4, .int .u64 h5, .int .u64 h6, .int .u64 h7, .int .u64 h8, .int .i64 h9, .slice tA ts.length tc, .slice gA gs.length gc, .slice bA bl.length bc]) ⟨hHeld, hp2.beside (by omega) _ _ _, hq2.whole rfl⟩ ?_
          clear hHeld hH2 hp2 hq2
          rintro W3 ⟨hH3, hp3, hq3⟩
          refine wpAnyH_ready (rs := [7]) (by kernel_rfl) (by simp) ?_
          refine AllReadyH.cons rfl (fun K hK => ?_) AllReadyH.nil
          rw [if_pos (by rfl)]
          refine wp_store_mid _ _ _ rfl w2.heap.size 0 #[.int .i64 c1, .int .i64 c2, .int .i64 c3, .bool c4, .int .u64 c5, .slice c6a c6.length c6c, .int .i64 k1, .int .i64 k2, .int .u64 k3, .int .u64 k4, .int .u64 k5, .int .u64 k6, .int .u64 k7, .int .u64 k8, .int .i64 k9, .slice uA us.length uc, .slice qA qs.length qc] rfl rfl (hp3.there rfl) (by kernel_rfl) (all_oneCell_toArray (by simp [Value.oneCell'])) ?_
          refine hK.out _ _ (below_setCells (by omega) _ _ _ hH3) (fun hHeld => ?_)
          clear hK K
          try simp only [Act.put, List.setIfInBounds_toArray, List.set_cons_zero, List.set_cons_succ]
          refine gen_world (P := fun W => wpAnyH _ _ _ _ _ _ _ _ W) _ (fun W' => Below w2.heap.size w2 W' ∧ Blk W' w2.heap.size 64 #[.int .i64 c1, .int .i64 c2, .int .i64 c3, .bool c4, .int .u64 c5, .slice c6a c6.length c6c, .int .i64 k1, .int .i64 k2, .int .u64 k3, .int .u64 k4, .int .u64 k5, .int .u64 k6, .int .u64 k7, .int .u64 k8, .int .i64 k9, .slice uA us.length uc, .slice qA qs.length qc] ∧ Blk W' W1.heap.size 59 #[.int .i64 m1, .int .i64 m2, .int .i64 h1, .int .i64 h2, .int .u64 h3, .int .u64 h4, .int .u64 h5, .int .u64 h6, .int .u64 h7, .int .u64 h8, .int .i64 h9, .slice tA ts.length tc, .slice gA gs.length gc, .slice bA bl.length bc]) ⟨hHeld, hp3.whole rfl, hq3.beside (by omega) _ _ _⟩ ?_
          clear hHeld hH3 hp3 hq3
          rintro W4 ⟨hH4, hp4, hq4⟩
          refine wpAnyH_done (by kernel_rfl) ?_ _
          go_wp2_with fail
          go_meet
          exact ⟨W1.heap.size, w2.heap.size, rfl, rfl, by omega, by omega, hW2.below hH4, hB2.below hH4 hlt2, hq4, hp4, hT2.ofBelow hH4 (by omega)⟩
      case rest =>
       as_aux_lemma =>
        obtain ⟨w3, rfl⟩ : ∃ x : World, x = wc := ⟨_, rfl⟩
        obtain ⟨P, Q, rfl, rfl, hgP, hgQ, hW3, hB3, hP3, hQ3, hT3⟩ := hcut
        have hlt3 := hB3.lt
        have hgl3 := hW3.lt
        have hltP3 := hP3.lt
        have hltQ3 := hQ3.lt
        have c3_0 := hB3.c 0 rfl
        have c3_1 := hB3.c 1 rfl
        have c3_2 := hB3.c 2 rfl
        have c3_3 := hB3.c 3 rfl
        have c3_4 := hB3.c 4 rfl
        have c3_5 := hB3.c 5 rfl
        have c3_6 := hB3.c 6 rfl
        have c3_7 := hB3.c 7 rfl
        have c3_8 := hB3.c 8 rfl
        have c3_9 := hB3.c 9 rfl
        have c3_10 := hB3.c 10 rfl
        have c3_11 := hB3.c 11 rfl
        have c3_12 := hB3.c 12 rfl
        have c3_13 := hB3.c 13 rfl
        have c3_14 := hB3.c 14 rfl
        have c3_15 := hB3.c 15 rfl
        have c3_16 := hB3.c 16 rfl
        have c3_17 := hB3.c 17 rfl
        have c3_18 := hB3.c 18 rfl
        have c3_19 := hB3.c 19 rfl
        have c3_20 := hB3.c 20 rfl
        have c3_21 := hB3.c 21 rfl
        have c3_22 := hB3.c 22 rfl
        have c3_23 := hB3.c 23 rfl
        have c3_24 := hB3.c 24 rfl
        have c3_25 := hB3.c 25 rfl
        have c3_26 := hB3.c 26 rfl
        have c3_27 := hB3.c 27 rfl
        have c3_28 := hB3.c 28 rfl
        have c3_29 := hB3.c 29 rfl
        have c3_30 := hB3.c 30 rfl
        have c3_31 := hB3.c 31 rfl
        have c3_32 := hB3.c 32 rfl
        have c3_33 := hB3.c 33 rfl
        have c3_34 := hB3.c 34 rfl
        have c3_35 := hB3.c 35 rfl
        have c3_36 := hB3.c 36 rfl
        have c3_37 := hB3.c 37 rfl
        have p3_0 := hP3.c 0 rfl
        have p3_1 := hP3.c 1 rfl
        have p3_2 := hP3.c 2 rfl
        have p3_3 := hP3.c 3 rfl
        have p3_4 := hP3.c 4 rfl
        have p3_5 := hP3.c 5 rfl
        have p3_6 := hP3.c 6 rfl
        have p3_7 := hP3.c 7 rfl
        have p3_8 := hP3.c 8 rfl
        have p3_9 := hP3.c 9 rfl
        have p3_10 := hP3.c 10 rfl
        have p3_11 := hP3.c 11 rfl
        have p3_12 := hP3.c 12 rfl
        have p3_13 := hP3.c 13 rfl
        have q3_0 := hQ3.c 0 rfl
        have q3_1 := hQ3.c 1 rfl
        have q3_2 := hQ3.c 2 rfl
        have q3_3 := hQ3.c 3 rfl
        have q3_4 := hQ3.c 4 rfl
        have q3_5 := hQ3.c 5 rfl
        have q3_6 := hQ3.c 6 rfl
        have q3_7 := hQ3.c 7 rfl
        have q3_8 := hQ3.c 8 rfl
        have q3_9 := hQ3.c 9 rfl
        have q3_10 := hQ3.c 10 rfl
        have q3_11 := hQ3.c 11 rfl
        have q3_12 := hQ3.c 12 rfl
        have q3_13 := hQ3.c 13 rfl
        have q3_14 := hQ3.c 14 rfl
        have q3_15 := hQ3.c 15 rfl
        have q3_16 := hQ3.c 16 rfl
        go_upto_region 4 with fail
        go_cut [34] (fun zx wc => zx = .tuple #[] ∧ Wrt wc g (S2.need (decide (x1 = 1) || noVote ⟨v1, v2, v3, v4, v5, v6⟩)) ∧ Blk wc w.heap.size 66 #[.int .i64 x1, .int .i64 v1, .int .i64 v2, .int .i64 v3, .bool v4, .int .u64 v5, .int .i64 v6, .int .i64 m1, .int .i64 m2, .int .i64 h1, .int .i64 h2, .int .u64 h3, .int .u64 h4, .int .u64 h5, .int .u64 h6, .int .u64 h7, .int .u64 h8, .int .i64 h9, .slice tA ts.length tc, .slice gA gs.length gc, .slice bA bl.length bc, .int .i64 c1, .int .i64 c2, .int .i64 c3, .bool c4, .int .u64 c5, .slice c6a c6.length c6c, .int .i64 k1, .int .i64 k2, .int .u64 k3, .int .u64 k4, .int .u64 k5, .int .u64 k6, .int .u64 k7, .int .u64 k8, .int .i64 k9, .slice uA us.length uc, .slice qA qs.length qc] ∧ Blk wc P 59 #[.int .i64 m1, .int .i64 m2, .int .i64 h1, .int .i64 h2, .int .u64 h3, .int .u64 h4, .int .u64 h5, .int .u64 h6, .int .u64 h7, .int .u64 h8, .int .i64 h9, .slice tA ts.length tc, .slice gA gs.length gc, .slice bA bl.length bc] ∧ Blk wc Q 64 #[.int .i64 c1, .int .i64 c2, .int .i64 c3, .bool c4, .int .u64 c5, .slice c6a c6.length c6c, .int .i64 k1, .int .i64 k2, .int .u64 k3, .int .u64 k4, .int .u64 k5, .int .u64 k6, .int .u64 k7, .int .u64 k8, .int .i64 k9, .slice uA us.length uc, .slice qA qs.length qc] ∧ Turned w wc g)
        case first =>
         as_aux_lemma =>
          have hK1 : Hid (noVote ⟨v1, v2, v3, v4, v5, v6⟩ = (decide (v1 = 0) && decide (v2 = 0) && decide (v3 = 0) && !v4 && decide (v5 = 0) && decide (v6 = 0))) := rfl
          go_wp2_with fail
          all_goals
            refine (need_any _ _ g _ hW3).mono ?_
            rintro e w4 ⟨rfl, hW4, hC4⟩
            go_wp2_with fail
            go_meet
            exact ⟨rfl, hW4.eq (by congr 1; rw [hK1.out]; first | rfl | grind | (simp_all; done)), hC4.blk hB3 (by omega) (by decide), hC4.blk hP3 (by omega) (by decide), hC4.blk hQ3 (by omega) (by decide), hT3.trans hC4⟩
        case rest =>
         as_aux_lemma =>
      
          obtain ⟨w4, rfl⟩ : ∃ x : World, x = wc := ⟨_, rfl⟩
          obtain ⟨rfl, hW4, hB4, hP4, hQ4, hT4⟩ := hcut
          have hlt4 := hB4.lt
          have hgl4 := hW4.lt
          have hltP4 := hP4.lt
          have hltQ4 := hQ4.lt
          have ll4 : (S2.need (decide (x1 = 1) || noVote ⟨v1, v2, v3, v4, v5, v6⟩)).b.length = S2.b.length := rfl
          generalize hS4 : S2.need (decide (x1 = 1) || noVote ⟨v1, v2, v3, v4, v5, v6⟩) = S4 at *
          have HS4 := Lib.hid hS4
          clear hS4
          have c4_0 := hB4.c 0 rfl
          have c4_1 := hB4.c 1 rfl
          have c4_2 := hB4.c 2 rfl
          have c4_3 := hB4.c 3 rfl
          have c4_4 := hB4.c 4 rfl
          have c4_5 := hB4.c 5 rfl
          have c4_6 := hB4.c 6 rfl
          have c4_7 := hB4.c 7 rfl
          have c4_8 := hB4.c 8 rfl
          have c4_9 := hB4.c 9 rfl
          have c4_10 := hB4.c 10 rfl
          have c4_11 := hB4.c 11 rfl
          have c4_12 := hB4.c 12 rfl
          have c4_13 := hB4.c 13 rfl
          have c4_14 := hB4.c 14 rfl
          have c4_15 := hB4.c 15 rfl
          have c4_16 := hB4.c 16 rfl
          have c4_17 := hB4.c 17 rfl
          have c4_18 := hB4.c 18 rfl
          have c4_19 := hB4.c 19 rfl
          have c4_20 := hB4.c 20 rfl
          have c4_21 := hB4.c 21 rfl
          have c4_22 := hB4.c 22 rfl
          have c4_23 := hB4.c 23 rfl
          have c4_24 := hB4.c 24 rfl
          have c4_25 := hB4.c 25 rfl
          have c4_26 := hB4.c 26 rfl
          have c4_27 := hB4.c 27 rfl
          have c4_28 := hB4.c 28 rfl
          have c4_29 := hB4.c 29 rfl
          have c4_30 := hB4.c 30 rfl
          have c4_31 := hB4.c 31 rfl
          have c4_32 := hB4.c 32 rfl
          have c4_33 := hB4.c 33 rfl
          have c4_34 := hB4.c 34 rfl
          have c4_35 := hB4.c 35 rfl
          have c4_36 := hB4.c 36 rfl
          have c4_37 := hB4.c 37 rfl
          have p4_0 := hP4.c 0 rfl
          have p4_1 := hP4.c 1 rfl
          have p4_2 := hP4.c 2 rfl
          have p4_3 := hP4.c 3 rfl
          have p4_4 := hP4.c 4 rfl
          have p4_5 := hP4.c 5 rfl
          have p4_6 := hP4.c 6 rfl
          have p4_7 := hP4.c 7 rfl
          have p4_8 := hP4.c 8 rfl
          have p4_9 := hP4.c 9 rfl
          have p4_10 := hP4.c 10 rfl
          have p4_11 := hP4.c 11 rfl
          have p4_12 := hP4.c 12 rfl
          have p4_13 := hP4.c 13 rfl
          have q4_0 := hQ4.c 0 rfl
          have q4_1 := hQ4.c 1 rfl
          have q4_2 := hQ4.c 2 rfl
          have q4_3 := hQ4.c 3 rfl
          have q4_4 := hQ4.c 4 rfl
          have q4_5 := hQ4.c 5 rfl
          have q4_6 := hQ4.c 6 rfl
          have q4_7 := hQ4.c 7 rfl
          have q4_8 := hQ4.c 8 rfl
          have q4_9 := hQ4.c 9 rfl
          have q4_10 := hQ4.c 10 rfl
          have q4_11 := hQ4.c 11 rfl
          have q4_12 := hQ4.c 12 rfl
          have q4_13 := hQ4.c 13 rfl
          have q4_14 := hQ4.c 14 rfl
          have q4_15 := hQ4.c 15 rfl
          have q4_16 := hQ4.c 16 rfl
          go_upto_region 5 with fail
          go_cut [60] (fun zx wc => zx = .tuple #[] ∧ Wrt wc g (S4.need (decide (x1 = 2) || noMotion ⟨m1, m2, ⟨⟨h1, h2, h3, h4, h5, h6, h7, h8, h9⟩, ts, tA, tc, gs, gA, gc⟩, bl, bA, bc⟩)) ∧ Blk wc w.heap.size 66 #[.int .i64 x1, .int .i64 v1, .int .i64 v2, .int .i64 v3, .bool v4, .int .u64 v5, .int .i64 v6, .int .i64 m1, .int .i64 m2, .int .i64 h1, .int .i64 h2, .int .u64 h3, .int .u64 h4, .int .u64 h5, .int .u64 h6, .int .u64 h7, .int .u64 h8, .int .i64 h9, .slice tA ts.length tc, .slice gA gs.length gc, .slice bA bl.length bc, .int .i64 c1, .int .i64 c2, .int .i64 c3, .bool c4, .int .u64 c5, .slice c6a c6.length c6c, .int .i64 k1, .int .i64 k2, .int .u64 k3, .int .u64 k4, .int .u64 k5, .int .u64 k6, .int .u64 k7, .int .u64 k8, .int .i64 k9, .slice uA us.length uc, .slice qA qs.length qc] ∧ Blk wc P 59 #[.int .i64 m1, .int .i64 m2, .int .i64 h1, .int .i64 h2, .int .u64 h3, .int .u64 h4, .int .u64 h5, .int .u64 h6, .int .u64 h7, .int .u64 h8, .int .i64 h9, .slice tA ts.length tc, .slice gA gs.length gc, .slice bA bl.length bc] ∧ Blk wc Q 64 #[.int .i64 c1, .int .i64 c2, .int .i64 c3, .bool c4, .int .u64 c5, .slice c6a c6.length c6c, .int .i64 k1, .int .i64 k2, .int .u64 k3, .int .u64 k4, .int .u64 k5, .int .u64 k6, .int .u64 k7, .int .u64 k8, .int .i64 k9, .slice uA us.length uc, .slice qA qs.length qc] ∧ Turned w wc g)
          case first =>
           as_aux_lemma =>
            have hK1 : Hid (noMotion ⟨m1, m2, ⟨⟨h1, h2, h3, h4, h5, h6, h7, h8, h9⟩, ts, tA, tc, gs, gA, gc⟩, bl, bA, bc⟩ = (decide (m1 = 0) && decide (m2 = 0) && noBlock ⟨⟨h1, h2, h3, h4, h5, h6, h7, h8, h9⟩, ts, tA, tc, gs, gA, gc⟩ && ((bl.length : Int) == 0))) := by show _ = _; rw [len0]; rfl
            have hnb := fun W => noBlock_any ⟨⟨h1, h2, h3, h4, h5, h6, h7, h8, h9⟩, ts, tA, tc, gs, gA, gc⟩ W
            dsimp only [BlockD.val] at hnb
            generalize noBlock ⟨⟨h1, h2, h3, h4, h5, h6, h7, h8, h9⟩, ts, tA, tc, gs, gA, gc⟩ = nb at *
            go_wp2_with fail
            all_goals first
              | (with_reducible refine (need_any _ _ g _ hW4).mono ?_
                 rintro e w5 ⟨rfl, hW5, hC5⟩
                 go_wp2_with fail
                 go_meet
                 exact ⟨rfl, hW5.eq (by congr 1; rw [hK1.out]; first | rfl | grind | (simp_all; done)), hC5.blk hB4 (by omega) (by decide), hC5.blk hP4 (by omega) (by decide), hC5.blk hQ4 (by omega) (by decide), hT4.trans hC5⟩)
              | (with_reducible refine (hnb _).mono ?_
                 rintro e w8 ⟨rfl, hb8⟩
                 have hW8 := hW4.below hb8
                 have hB8 := hB4.below hb8 hB4.lt
                 have hP8 := hP4.below hb8 hP4.lt
                 have hQ8 := hQ4.below hb8 hQ4.lt
                 have hT8 := hT4.ofBelow hb8 (by omega)
                 have hsz8 := hb8.size
                 have k8 : w8.cell? ⟨P, 13, none⟩ = some (Value.slice bA bl.length bc) := (hP8.cell 13).trans rfl
                 cases nb
                 all_goals
                   as_aux_lemma =>
                   go_wp2_with fail
                   all_goals
                     refine (need_any _ _ g _ hW8).mono ?_
                     rintro e w9 ⟨rfl, hW9, hC9⟩
                     go_wp2_with fail
                     go_meet
                     exact ⟨rfl, hW9.eq (by congr 1; rw [hK1.out]; first | rfl | grind | (simp_all; done)), hC9.blk hB8 (by omega) (by decide), hC9.blk hP8 (by omega) (by decide), hC9.blk hQ8 (by omega) (by decide), hT8.trans hC9⟩)
          case rest =>
           as_aux_lemma =>
      
            obtain ⟨w5, rfl⟩ : ∃ x : World, x = wc := ⟨_, rfl⟩
            obtain ⟨rfl, hW5, hB5, hP5, hQ5, hT5⟩ := hcut
            have hlt5 := hB5.lt
            have hgl5 := hW5.lt
            have hltP5 := hP5.lt
            have hltQ5 := hQ5.lt
            have ll5 : (S4.need (decide (x1 = 2) || noMotion ⟨m1, m2, ⟨⟨h1, h2, h3, h4, h5, h6, h7, h8, h9⟩, ts, tA, tc, gs, gA, gc⟩, bl, bA, bc⟩)).b.length = S4.b.length := rfl
            generalize hS5 : S4.need (decide (x1 = 2) || noMotion ⟨m1, m2, ⟨⟨h1, h2, h3, h4, h5, h6, h7, h8, h9⟩, ts, tA, tc, gs, gA, gc⟩, bl, bA, bc⟩) = S5 at *
            have HS5 := Lib.hid hS5
            clear hS5
            have c5_0 := hB5.c 0 rfl
            have c5_1 := hB5.c 1 rfl
            have c5_2 := hB5.c 2 rfl
            have c5_3 := hB5.c 3 rfl
            have c5_4 := hB5.c 4 rfl
            have c5_5 := hB5.c 5 rfl
            have c5_6 := hB5.c 6 rfl
            have c5_7 := hB5.c 7 rfl
            have c5_8 := hB5.c 8 rfl
            have c5_9 := hB5.c 9 rfl
            have c5_10 := hB5.c 10 rfl
            have c5_11 := hB5.c 11 rfl
            have c5_12 := hB5.c 12 rfl
            have c5_13 := hB5.c 13 rfl
            have c5_14 := hB5.c 14 rfl
            have c5_15 := hB5.c 15 rfl
            have c5_16 := hB5.c 16 rfl
            have c5_17 := hB5.c 17 rfl
            have c5_18 := hB5.c 18 rfl
            have c5_19 := hB5.c 19 rfl
            have c5_20 := hB5.c 20 rfl
            have c5_21 := hB5.c 21 rfl
            have c5_22 := hB5.c 22 rfl
            have c5_23 := hB5.c 23 rfl
            have c5_24 := hB5.c 24 rfl
            have c5_25 := hB5.c 25 rfl
            have c5_26 := hB5.c 26 rfl
            have c5_27 := hB5.c 27 rfl
            have c5_28 := hB5.c 28 rfl
            have c5_29 := hB5.c 29 rfl
            have c5_30 := hB5.c 30 rfl
            have c5_31 := hB5.c 31 rfl
            have c5_32 := hB5.c 32 rfl
            have c5_33 := hB5.c 33 rfl
            have c5_34 := hB5.c 34 rfl
            have c5_35 := hB5.c 35 rfl
            have c5_36 := hB5.c 36 rfl
            have c5_37 := hB5.c 37 rfl
            have p5_0 := hP5.c 0 rfl
            have p5_1 := hP5.c 1 rfl
            have p5_2 := hP5.c 2 rfl
            have p5_3 := hP5.c 3 rfl
            have p5_4 := hP5.c 4 rfl
            have p5_5 := hP5.c 5 rfl
            have p5_6 := hP5.c 6 rfl
            have p5_7 := hP5.c 7 rfl
            have p5_8 := hP5.c 8 rfl
            have p5_9 := hP5.c 9 rfl
            have p5_10 := hP5.c 10 rfl
            have p5_11 := hP5.c 11 rfl
            have p5_12 := hP5.c 12 rfl
            have p5_13 := hP5.c 13 rfl
            have q5_0 := hQ5.c 0 rfl
            have q5_1 := hQ5.c 1 rfl
            have q5_2 := hQ5.c 2 rfl
            have q5_3 := hQ5.c 3 rfl
            have q5_4 := hQ5.c 4 rfl
            have q5_5 := hQ5.c 5 rfl
            have q5_6 := hQ5.c 6 rfl
            have q5_7 := hQ5.c 7 rfl
            have q5_8 := hQ5.c 8 rfl
            have q5_9 := hQ5.c 9 rfl
            have q5_10 := hQ5.c 10 rfl
            have q5_11 := hQ5.c 11 rfl
            have q5_12 := hQ5.c 12 rfl
            have q5_13 := hQ5.c 13 rfl
            have q5_14 := hQ5.c 14 rfl
            have q5_15 := hQ5.c 15 rfl
            have q5_16 := hQ5.c 16 rfl
            go_upto_region 6 with fail
            go_cut [80] (fun zx wc => zx = .tuple #[] ∧ Wrt wc g (S5.need (decide (x1 = 3) || decide (x1 = 4) || noKnown ⟨⟨c1, c2, c3, c4, c5, c6, c6a, c6c⟩, ⟨⟨k1, k2, k3, k4, k5, k6, k7, k8, k9⟩, us, uA, uc, qs, qA, qc⟩⟩)) ∧ Blk wc w.heap.size 66 #[.int .i64 x1, .int .i64 v1, .int .i64 v2, .int .i64 v3, .bool v4, .int .u64 v5, .int .i64 v6, .int .i64 m1, .int .i64 m2, .int .i64 h1, .int .i64 h2, .int .u64 h3, .int .u64 h4, .int .u64 h5, .int .u64 h6, .int .u64 h7, .int .u64 h8, .int .i64 h9, .slice tA ts.length tc, .slice gA gs.length gc, .slice bA bl.length bc, .int .i64 c1, .int .i64 c2, .int .i64 c3, .bool c4, .int .u64 c5, .slice c6a c6.length c6c, .int .i64 k1, .int .i64 k2, .int .u64 k3, .int .u64 k4, .int .u64 k5, .int .u64 k6, .int .u64 k7, .int .u64 k8, .int .i64 k9, .slice uA us.length uc, .slice qA qs.length qc] ∧ Blk wc P 59 #[.int .i64 m1, .int .i64 m2, .int .i64 h1, .int .i64 h2, .int .u64 h3, .int .u64 h4, .int .u64 h5, .int .u64 h6, .int .u64 h7, .int .u64 h8, .int .i64 h9, .slice tA ts.length tc, .slice gA gs.length gc, .slice bA bl.length bc] ∧ Blk wc Q 64 #[.int .i64 c1, .int .i64 c2, .int .i64 c3, .bool c4, .int .u64 c5, .slice c6a c6.length c6c, .int .i64 k1, .int .i64 k2, .int .u64 k3, .int .u64 k4, .int .u64 k5, .int .u64 k6, .int .u64 k7, .int .u64 k8, .int .i64 k9, .slice uA us.length uc, .slice qA qs.length qc] ∧ Turned w wc g)
            case first =>
             as_aux_lemma =>
              have hK1 : Hid (noKnown ⟨⟨c1, c2, c3, c4, c5, c6, c6a, c6c⟩, ⟨⟨k1, k2, k3, k4, k5, k6, k7, k8, k9⟩, us, uA, uc, qs, qA, qc⟩⟩ = (noCert ⟨c1, c2, c3, c4, c5, c6, c6a, c6c⟩ && noBlock ⟨⟨k1, k2, k3, k4, k5, k6, k7, k8, k9⟩, us, uA, uc, qs, qA, qc⟩)) := rfl
              have hnb := fun W => noBlock_any ⟨⟨k1, k2, k3, k4, k5, k6, k7, k8, k9⟩, us, uA, uc, qs, qA, qc⟩ W
              have hnc := fun W => noCert_any ⟨c1, c2, c3, c4, c5, c6, c6a, c6c⟩ W
              dsimp only [BlockD.val, CertD.val] at hnb hnc
              generalize noBlock ⟨⟨k1, k2, k3, k4, k5, k6, k7, k8, k9⟩, us, uA, uc, qs, qA, qc⟩ = nb at *
              generalize noCert ⟨c1, c2, c3, c4, c5, c6, c6a, c6c⟩ = nc at *
              go_wp2_with fail
              all_goals first
                | (with_reducible refine (need_any _ _ g _ hW5).mono ?_
                   rintro e w6 ⟨rfl, hW6, hC6⟩
                   go_wp2_with fail
                   go_meet
                   exact ⟨rfl, hW6.eq (by congr 1; rw [hK1.out]; first | rfl | grind | (simp_all; done)), hC6.blk hB5 (by omega) (by decide), hC6.blk hP5 (by omega) (by decide), hC6.blk hQ5 (by omega) (by decide), hT5.trans hC6⟩)
                | (with_reducible refine (hnc _).mono ?_
                   rintro e w8 ⟨rfl, hb8⟩
                   have hW8 := hW5.below hb8
                   have hB8 := hB5.below hb8 hB5.lt
                   have hP8 := hP5.below hb8 hP5.lt
                   have hQ8 := hQ5.below hb8 hQ5.lt
                   have hT8 := hT5.ofBelow hb8 (by omega)
                   have hsz8 := hb8.size
                   have k8_6 : w8.cell? ⟨Q, 6, none⟩ = some (Value.int .i64 k1) := (hQ8.cell 6).trans rfl
                   have k8_7 : w8.cell? ⟨Q, 7, none⟩ = some (Value.int .i64 k2) := (hQ8.cell 7).trans rfl
                   have k8_8 : w8.cell? ⟨Q, 8, none⟩ = some (Value.int .u64 k3) := (hQ8.cell 8).trans rfl
                   have k8_9 : w8.cell? ⟨Q, 9, none⟩ = some (Value.int .u64 k4) := (hQ8.cell 9).trans rfl
                   have k8_10 : w8.cell? ⟨Q, 10, none⟩ = some (Value.int .u64 k5) := (hQ8.cell 10).trans rfl
                   have k8_11 : w8.cell? ⟨Q, 11, none⟩ = some (Value.int .u64 k6) := (hQ8.cell 11).trans rfl
                   have k8_12 : w8.cell? ⟨Q, 12, none⟩ = some (Value.int .u64 k7) := (hQ8.cell 12).trans rfl
                   have k8_13 : w8.cell? ⟨Q, 13, none⟩ = some (Value.int .u64 k8) := (hQ8.cell 13).trans rfl
                   have k8_14 : w8.cell? ⟨Q, 14, none⟩ = some (Value.int .i64 k9) := (hQ8.cell 14).trans rfl
                   have k8_15 : w8.cell? ⟨Q, 15, none⟩ = some (Value.slice uA us.length uc) := (hQ8.cell 15).trans rfl
                   have k8_16 : w8.cell? ⟨Q, 16, none⟩ = some (Value.slice qA qs.length qc) := (hQ8.cell 16).trans rfl
                   cases nc
                   all_goals
                     as_aux_lemma =>
                     go_wp2_with fail
                     all_goals first
                       | (with_reducible refine (need_any _ _ g _ hW8).mono ?_
                          rintro e w10 ⟨rfl, hW10, hC10⟩
                          go_wp2_with fail
                          go_meet
                          exact ⟨rfl, hW10.eq (by congr 1; rw [hK1.out]; first | rfl | grind | (simp_all; done)), hC10.blk hB8 (by omega) (by decide), hC10.blk hP8 (by omega) (by decide), hC10.blk hQ8 (by omega) (by decide), hT8.trans hC10⟩)
                       | (with_reducible refine (hnb _).mono ?_
                          rintro e w9 ⟨rfl, hb9⟩
                          have hW9 := hW8.below hb9
                          have hB9 := hB8.below hb9 hB8.lt
                          have hP9 := hP8.below hb9 hP8.lt
                          have hQ9 := hQ8.below hb9 hQ8.lt
                          have hT9 := hT8.ofBelow hb9 (by omega)
                          have hsz9 := hb9.size
                          cases nb
                          all_goals
                            as_aux_lemma =>
                            go_wp2_with fail
                            all_goals
                              refine (need_any _ _ g _ hW9).mono ?_
                              rintro e w11 ⟨rfl, hW11, hC11⟩
                              go_wp2_with fail
                              go_meet
                              exact ⟨rfl, hW11.eq (by congr 1; rw [hK1.out]; first | rfl | grind | (simp_all; done)), hC11.blk hB9 (by omega) (by decide), hC11.blk hP9 (by omega) (by decide), hC11.blk hQ9 (by omega) (by decide), hT9.trans hC11⟩))
            case rest =>
             as_aux_lemma =>
      
              obtain ⟨w6, rfl⟩ : ∃ x : World, x = wc := ⟨_, rfl⟩
              obtain ⟨rfl, hW6, hB6, hP6, hQ6, hT6⟩ := hcut
              have hlt6 := hB6.lt
              have hgl6 := hW6.lt
              have hltP6 := hP6.lt
              have hltQ6 := hQ6.lt
              have ll6 : (S5.need (decide (x1 = 3) || decide (x1 = 4) || noKnown ⟨⟨c1, c2, c3, c4, c5, c6, c6a, c6c⟩, ⟨⟨k1, k2, k3, k4, k5, k6, k7, k8, k9⟩, us, uA, uc, qs, qA, qc⟩⟩)).b.length = S5.b.length := rfl
              generalize hS6 : S5.need (decide (x1 = 3) || decide (x1 = 4) || noKnown ⟨⟨c1, c2, c3, c4, c5, c6, c6a, c6c⟩, ⟨⟨k1, k2, k3, k4, k5, k6, k7, k8, k9⟩, us, uA, uc, qs, qA, qc⟩⟩) = S6 at *
              have HS6 := Lib.hid hS6
              clear hS6
              have c6_0 := hB6.c 0 rfl
              have c6_1 := hB6.c 1 rfl
              have c6_2 := hB6.c 2 rfl
              have c6_3 := hB6.c 3 rfl
              have c6_4 := hB6.c 4 rfl
              have c6_5 := hB6.c 5 rfl
              have c6_6 := hB6.c 6 rfl
              have c6_7 := hB6.c 7 rfl
              have c6_8 := hB6.c 8 rfl
              have c6_9 := hB6.c 9 rfl
              have c6_10 := hB6.c 10 rfl
              have c6_11 := hB6.c 11 rfl
              have c6_12 := hB6.c 12 rfl
              have c6_13 := hB6.c 13 rfl
              have c6_14 := hB6.c 14 rfl
              have c6_15 := hB6.c 15 rfl
              have c6_16 := hB6.c 16 rfl
              have c6_17 := hB6.c 17 rfl
              have c6_18 := hB6.c 18 rfl
              have c6_19 := hB6.c 19 rfl
              have c6_20 := hB6.c 20 rfl
              have c6_21 := hB6.c 21 rfl
              have c6_22 := hB6.c 22 rfl
              have c6_23 := hB6.c 23 rfl
              have c6_24 := hB6.c 24 rfl
              have c6_25 := hB6.c 25 rfl
              have c6_26 := hB6.c 26 rfl
              have c6_27 := hB6.c 27 rfl
              have c6_28 := hB6.c 28 rfl
              have c6_29 := hB6.c 29 rfl
              have c6_30 := hB6.c 30 rfl
              have c6_31 := hB6.c 31 rfl
              have c6_32 := hB6.c 32 rfl
              have c6_33 := hB6.c 33 rfl
              have c6_34 := hB6.c 34 rfl
              have c6_35 := hB6.c 35 rfl
              have c6_36 := hB6.c 36 rfl
              have c6_37 := hB6.c 37 rfl
              have p6_0 := hP6.c 0 rfl
              have p6_1 := hP6.c 1 rfl
              have p6_2 := hP6.c 2 rfl
              have p6_3 := hP6.c 3 rfl
              have p6_4 := hP6.c 4 rfl
              have p6_5 := hP6.c 5 rfl
              have p6_6 := hP6.c 6 rfl
              have p6_7 := hP6.c 7 rfl
              have p6_8 := hP6.c 8 rfl
              have p6_9 := hP6.c 9 rfl
              have p6_10 := hP6.c 10 rfl
              have p6_11 := hP6.c 11 rfl
              have p6_12 := hP6.c 12 rfl
              have p6_13 := hP6.c 13 rfl
              have q6_0 := hQ6.c 0 rfl
              have q6_1 := hQ6.c 1 rfl
              have q6_2 := hQ6.c 2 rfl
              have q6_3 := hQ6.c 3 rfl
              have q6_4 := hQ6.c 4 rfl
              have q6_5 := hQ6.c 5 rfl
              have q6_6 := hQ6.c 6 rfl
              have q6_7 := hQ6.c 7 rfl
              have q6_8 := hQ6.c 8 rfl
              have q6_9 := hQ6.c 9 rfl
              have q6_10 := hQ6.c 10 rfl
              have q6_11 := hQ6.c 11 rfl
              have q6_12 := hQ6.c 12 rfl
              have q6_13 := hQ6.c 13 rfl
              have q6_14 := hQ6.c 14 rfl
              have q6_15 := hQ6.c 15 rfl
              have q6_16 := hQ6.c 16 rfl
              have hF : Hid (S.record ⟨x1, ⟨v1, v2, v3, v4, v5, v6⟩, ⟨m1, m2, ⟨⟨h1, h2, h3, h4, h5, h6, h7, h8, h9⟩, ts, tA, tc, gs, gA, gc⟩, bl, bA, bc⟩, ⟨⟨c1, c2, c3, c4, c5, c6, c6a, c6c⟩, ⟨⟨k1, k2, k3, k4, k5, k6, k7, k8, k9⟩, us, uA, uc, qs, qA, qc⟩⟩⟩ = S6.what ⟨x1, ⟨v1, v2, v3, v4, v5, v6⟩, ⟨m1, m2, ⟨⟨h1, h2, h3, h4, h5, h6, h7, h8, h9⟩, ts, tA, tc, gs, gA, gc⟩, bl, bA, bc⟩, ⟨⟨c1, c2, c3, c4, c5, c6, c6a, c6c⟩, ⟨⟨k1, k2, k3, k4, k5, k6, k7, k8, k9⟩, us, uA, uc, qs, qA, qc⟩⟩⟩) := by
                show _ = _
                rw [← HS6.out, ← HS5.out, ← HS4.out, ← HS2.out, ← HS1.out]
                rfl
              have hWh : Hid (S6.what ⟨x1, ⟨v1, v2, v3, v4, v5, v6⟩, ⟨m1, m2, ⟨⟨h1, h2, h3, h4, h5, h6, h7, h8, h9⟩, ts, tA, tc, gs, gA, gc⟩, bl, bA, bc⟩, ⟨⟨c1, c2, c3, c4, c5, c6, c6a, c6c⟩, ⟨⟨k1, k2, k3, k4, k5, k6, k7, k8, k9⟩, us, uA, uc, qs, qA, qc⟩⟩⟩ = if x1 = 1 then S6.vote ⟨v1, v2, v3, v4, v5, v6⟩ else if x1 = 2 then S6.motion ⟨m1, m2, ⟨⟨h1, h2, h3, h4, h5, h6, h7, h8, h9⟩, ts, tA, tc, gs, gA, gc⟩, bl, bA, bc⟩ else if x1 = 3 ∨ x1 = 4 then S6.known ⟨⟨c1, c2, c3, c4, c5, c6, c6a, c6c⟩, ⟨⟨k1, k2, k3, k4, k5, k6, k7, k8, k9⟩, us, uA, uc, qs, qA, qc⟩⟩ else S6) := rfl
              rw [hWh.out] at hF
              clear hWh
              by_cases d1 : x1 = 1
              · rw [if_pos d1] at hF
                have d1b : (x1 == 1) = true := by simp [d1]
                go_wp2_with fail
                refine (wvote_any ⟨v1, v2, v3, v4, v5, v6⟩ hxv _ g _ hW6 (by omega)).mono ?_
                rintro e w7 ⟨rfl, hW7, hC7⟩
                go_wp2_with fail
                go_end0
                exact ⟨rfl, hW7.eq hF.out.symm, hT6.trans hC7⟩
              have d1b : (x1 == 1) = false := by simpa using d1
              rw [if_neg d1] at hF
              by_cases d2 : x1 = 2
              · rw [if_pos d2] at hF
                have d2b : (x1 == 2) = true := by simp [d2]
                go_wp2_with fail
                refine (wmotion_any ⟨m1, m2, ⟨⟨h1, h2, h3, h4, h5, h6, h7, h8, h9⟩, ts, tA, tc, gs, gA, gc⟩, bl, bA, bc⟩ B _ g _ hW6 (by omega) (hxm.below (hT6.low.mono hB)) hB).mono ?_
                rintro e w7 ⟨rfl, hW7, hC7⟩
                go_wp2_with fail
                go_end0
                exact ⟨rfl, hW7.eq hF.out.symm, hT6.trans hC7⟩
              have d2b : (x1 == 2) = false := by simpa using d2
              rw [if_neg d2] at hF
              by_cases d3 : x1 = 3 ∨ x1 = 4
              · rw [if_pos d3] at hF
                have d3b : (decide (x1 = 3) || decide (x1 = 4)) = true := by simpa using d3
                go_wp2_with fail
                all_goals
                  refine (wknown_any ⟨⟨c1, c2, c3, c4, c5, c6, c6a, c6c⟩, ⟨⟨k1, k2, k3, k4, k5, k6, k7, k8, k9⟩, us, uA, uc, qs, qA, qc⟩⟩ B _ g _ hW6 (by omega) (hxk.below (hT6.low.mono hB)) hB).mono ?_
                  rintro e w7 ⟨rfl, hW7, hC7⟩
                  go_wp2_with fail
                  go_end0
                  exact ⟨rfl, hW7.eq hF.out.symm, hT6.trans hC7⟩
              have d3b : (decide (x1 = 3) || decide (x1 = 4)) = false := by simpa using d3
              have d3c : (x1 == 3) = false := by simp; omega
              have d4c : (x1 == 4) = false := by simp; omega
              rw [if_neg d3] at hF
              go_wp2_with fail
              go_end0
              exact ⟨rfl, hW6.eq hF.out.symm, hT6⟩
theorem record_agg (x : RecordD) : ∃ C : Array Value, x.val = .agg C ∧ C.size = 38 := by
 obtain ⟨x1, ⟨v1, v2, v3, v4, v5, v6⟩, ⟨m1, m2, ⟨⟨h1, h2, h3, h4, h5, h6, h7, h8, h9⟩, ts, tA, tc, gs, gA, gc⟩, bl, bA, bc⟩, ⟨⟨c1, c2, c3, c4, c5, c6, c6a, c6c⟩, ⟨⟨k1, k2, k3, k4, k5, k6, k7, k8, k9⟩, us, uA, uc, qs, qA, qc⟩⟩⟩ := x; exact ⟨_, rfl, rfl⟩
set_option maxRecDepth 100000 in
set_option maxHeartbeats 2000000 in
theorem write_record (x : RecordD) (B : Nat) (w : World) (hx : x.held w B) (hB : B ≤ w.heap.size) (hl : recordM x ≤ 10000000) :
  Calls Tryz.prog 143 #[x.val, .func (.func 144) #[] #[]] w fun e w' => e = .returned (.tuple #[.string (bs (Out.empty.record x).rs), .int .i64 (Out.empty.record x).re]) ∧ Below w.heap.size w w' := by
 have hw := fun W g S h a b c => wrecord_any x B W g S h a b c
 obtain ⟨C, hC, hn⟩ := record_agg x; rw [hC] at hw ⊢
 go_enter Tryz.func143, Tryz.ntmps143
 go_upto_region 2 with fail
 have hBX : Blk ((w.alloc (.cells C 66)).alloc (.cells #[.slice none 0 0, .bool false, .bool false] 203)) w.heap.size 66 C := (Blk.new w _ C).alloc _; have hN := Wrt.new (w.alloc (.cells C 66)); rw [show (w.alloc (.cells C 66)).heap.size = w.heap.size + 1 by simp] at hN; have hBel : Below w.heap.size w ((w.alloc (.cells C 66)).alloc (.cells #[.slice none 0 0, .bool false, .bool false] 203)) := ((Below.refl _ _).alloc (Nat.le_refl _) _).alloc (by simp) _; generalize ((w.alloc (.cells C 66)).alloc (.cells #[.slice none 0 0, .bool false, .bool false] 203)) = w0 at *; refine wp_region_lit ?_; refine wpList_plain rfl fun K hK => ?_
 go_simp; refine hK _ _ ?_; clear hK K; refine wpList_plain rfl fun K hK => ?_
 go_simp; refine hK _ _ ?_; clear hK K; refine wpList_load_mid rfl _ _ rfl w.heap.size 0 rfl (C.extract 0 (0 + C.size)).toList _ (World.rangeAt_of_block hBX 0 C.size) Tryz.underlying66 rfl ((show (Tryz.prog.info? 66).map (·.size) = some 38 from by kernel_rfl).trans (by simp [hn])) ?_; rw [show ((C.extract 0 (0 + C.size)).toList).toArray = C by simp]; go_wp2_with fail; refine (hw _ (w.heap.size + 1) _ hN (by simp [Out.empty]; omega) (hx.below (hBel.mono hB)) (by omega)).mono ?_; rintro e w1 ⟨rfl, ⟨v, hb, ho⟩, hT1⟩; have hgl := hb.lt; have hS := hT1.size; have hBel1 : Below w.heap.size w w1 := hBel.trans (hT1.low.mono (by omega)); generalize hSE : Out.empty.record x = S1 at *; have HSE := Lib.hid hSE; clear hSE hw; have c0 := hb.c 0 rfl; have c1 := hb.c 1 rfl; have c2 := hb.c 2 rfl; have hcv := conv_own w1 ho; clear hb ho; obtain ⟨b, far, odd⟩ := S1; dsimp only at *; cases far
 ·cases odd
  ·go_wp2_with fail
   go_ret2
   exact ⟨by rw [HSE.out]; rfl, hBel1⟩
  ·go_wp2_with fail
   go_ret2
   exact ⟨by rw [HSE.out]; rfl, hBel1⟩
 ·go_wp2_with fail
  go_ret2
  exact ⟨by rw [HSE.out]; rfl, hBel1⟩
set_option maxRecDepth 100000 in
set_option maxHeartbeats 2000000 in
theorem put_record (x : RecordD) (B : Nat) (w : World) (hx : x.held w B) (hB : B ≤ w.heap.size) (hl : recordM x ≤ 10000000) :
  Calls Tryz.prog 65 #[x.val] w fun e w' => e = .returned (.tuple #[.string (bs (Out.empty.record x).rs), .int .i64 (Out.empty.record x).re]) ∧ Below w.heap.size w w' := by
 have hw := fun W a b => write_record x B W a b hl
 obtain ⟨C, hC, hn⟩ := record_agg x; rw [hC] at hw ⊢
 generalize Out.empty.record x = S1 at *; go_enter Tryz.func65, Tryz.ntmps65
 go_upto_region 1 with fail
 have hBX : Blk (w.alloc (.cells C 66)) w.heap.size 66 C := Blk.new w _ C; have hBel : Below w.heap.size w (w.alloc (.cells C 66)) := (Below.refl _ _).alloc (Nat.le_refl _) _; generalize w.alloc (.cells C 66) = w0 at *; refine wp_region_lit ?_; refine wpList_load_mid rfl _ _ rfl w.heap.size 0 rfl (C.extract 0 (0 + C.size)).toList _ (World.rangeAt_of_block hBX 0 C.size) Tryz.underlying66 rfl ((show (Tryz.prog.info? 66).map (·.size) = some 38 from by kernel_rfl).trans (by simp [hn])) ?_; rw [show ((C.extract 0 (0 + C.size)).toList).toArray = C by simp]; go_wp2_with fail; refine (hw _ (hx.below (hBel.mono hB)) (Nat.le_trans hB hBel.size)).mono ?_; rintro e w1 ⟨rfl, hb⟩; go_wp2_with fail
 go_ret2
 exact ⟨rfl, hBel.trans (hb.mono hBel.size)⟩
set_option maxRecDepth 100000 in
set_option maxHeartbeats 2000000 in
theorem rput_record (x : RecordD) (B : Nat) (w : World) (hx : x.held w B) (hB : B ≤ w.heap.size) (hl : recordM x ≤ 10000000) :
  Calls Tryz.prog 64 #[x.val] w fun e w' => e = .returned (.tuple #[.string (bs (Out.empty.record x).rs), .int .i64 (Out.empty.record x).re]) ∧ Below w.heap.size w w' := by
 have hw := fun W g S h a b c => rrecord_any x B W g S h a b c
 obtain ⟨C, hC, hn⟩ := record_agg x; rw [hC] at hw ⊢
 go_enter Tryz.func64, Tryz.ntmps64
 go_upto_region 2 with fail
 have hBX : Blk ((w.alloc (.cells C 66)).alloc (.cells #[.string ⟨#[]⟩, .bool false, .bool false] 126)) w.heap.size 66 C := (Blk.new w _ C).alloc _; have hN := Ref.new (w.alloc (.cells C 66)); rw [show (w.alloc (.cells C 66)).heap.size = w.heap.size + 1 by simp] at hN; have hBel : Below w.heap.size w ((w.alloc (.cells C 66)).alloc (.cells #[.string ⟨#[]⟩, .bool false, .bool false] 126)) := ((Below.refl _ _).alloc (Nat.le_refl _) _).alloc (by simp) _; generalize ((w.alloc (.cells C 66)).alloc (.cells #[.string ⟨#[]⟩, .bool false, .bool false] 126)) = w0 at *; refine wp_region_lit ?_; refine wpList_plain rfl fun K hK => ?_
 go_simp; refine hK _ _ ?_; clear hK K; refine wpList_load_mid rfl _ _ rfl w.heap.size 0 rfl (C.extract 0 (0 + C.size)).toList _ (World.rangeAt_of_block hBX 0 C.size) Tryz.underlying66 rfl ((show (Tryz.prog.info? 66).map (·.size) = some 38 from by kernel_rfl).trans (by simp [hn])) ?_; rw [show ((C.extract 0 (0 + C.size)).toList).toArray = C by simp]; go_wp2_with fail; refine (hw _ (w.heap.size + 1) _ hN (by simp [Out.empty]; omega) (hx.below (hBel.mono hB)) (by omega)).mono ?_; rintro e w1 ⟨rfl, hW1, hT1⟩; have hgl1 := hW1.lt; have hS := hT1.size; have hBel1 : Below w.heap.size w w1 := hBel.trans (hT1.low.mono (by omega)); clear hw; go_wp2_with fail; refine (rout_any _ _ _ hW1).mono ?_; rintro e w9 ⟨rfl, rfl⟩; go_wp2_with fail
 go_ret2
 exact ⟨rfl, hBel1⟩
end Go.Proofs.YtjhaafbbdgjagaaGreat
