/- The reference's writer: messages. -/
import Derived.Test.YtjmkcndjjfokiaaProg
import Derived.Test.YtjmkcndjjfokiaaWrC
namespace Go.Proofs.Ytjmkcndjjfokiaa
open Go.RowKit
set_option maxRecDepth 100000 in
set_option maxHeartbeats 4000000 in
theorem rmessage_any (x : MessageD) (B : Nat) (w : World) (g : Nat) (S : Out) (h : Ref w g S) (hl : S.b.length + 40 * messageM x ≤ 58999999930000) (hx : x.held w B) (hB : B ≤ g) :
    Calls Try.prog 117 #[.pointer (some ⟨g, 0, none⟩), x.val] w fun e w' => e = .returned (.tuple #[]) ∧ Ref w' g (S.message x) ∧ Turned w w' g := by
  have hgt := h.lt
  have hE : Hid (S.message x = (x.txs.foldl Out.tx (((x.knowns.foldl Out.known (((x.motions.foldl Out.motion (((x.votes.foldl Out.vote (((((S.num x.f).num x.t).num x.h).lim x.votes.length 512).num x.votes.length)).lim x.motions.length 2).num x.motions.length)).lim x.knowns.length 2).num x.knowns.length)).lim x.txs.length 16).num x.txs.length)).need (decide (1 ≤ x.f))) := rfl
  obtain ⟨x1, x2, x3, vl, vA, vc, ml, mA, mc, kl, kA, kc, ts, tA, tc⟩ := x
  simp only [messageM] at hl
  try dsimp only at hl
  obtain ⟨hxv, hxm, hxk, hxt, ⟨hs0, hs1, hs2, hs3⟩, hxv2, hxm2, hxk2, hxt2⟩ := hx
  dsimp only at hxv hxm hxk hxt hs0 hs1 hs2 hs3 hxv2 hxm2 hxk2 hxt2
  have hsw1 : sumL voteW vl = 33 * vl.length := sumL_const 33 vl
  have hsw2 : sumL voteM vl = 7 * vl.length := sumL_const 7 vl
  have hsw3 := motions_W ml
  have hsw4 := knowns_W kl
  have hsw5 := txs_W ts
  unfold maxLen at hs0 hs1 hs2 hs3
  have HL_vl : Hid (∀ S' : Out, (S'.lim vl.length 512).b.length = S'.b.length) := fun _ => rfl
  have HL_ml : Hid (∀ S' : Out, (S'.lim ml.length 2).b.length = S'.b.length) := fun _ => rfl
  have HL_kl : Hid (∀ S' : Out, (S'.lim kl.length 2).b.length = S'.b.length) := fun _ => rfl
  have HL_ts : Hid (∀ S' : Out, (S'.lim ts.length 16).b.length = S'.b.length) := fun _ => rfl
  dsimp only [MessageD.val]
  go_enter Try.func117, Try.ntmps117
  go_wp2_with fail
  refine (rnumber_any _ _ g _ (h.alloc _) (by omega)).mono ?_
  rintro e w1 ⟨rfl, hW1, hC1⟩
  have hB1 := hC1.blk (Blk.new _ _ _) (by omega) (by decide)
  have hT1 := ((Turned.refl w g).alloc (by omega) _).trans hC1
  have hlt1 := hB1.lt
  have hgl1 := hW1.lt
  have ll1 := S.num_len x1
  generalize S.num x1 = S1 at *
  have c1_0 := (hB1.cell 0).trans (show _ = some (.int .i64 x1) from rfl)
  have c1_1 := (hB1.cell 1).trans (show _ = some (.int .i64 x2) from rfl)
  have c1_2 := (hB1.cell 2).trans (show _ = some (.int .i64 x3) from rfl)
  have c1_3 := (hB1.cell 3).trans (show _ = some (.slice vA vl.length vc) from rfl)
  have c1_4 := (hB1.cell 4).trans (show _ = some (.slice mA ml.length mc) from rfl)
  have c1_5 := (hB1.cell 5).trans (show _ = some (.slice kA kl.length kc) from rfl)
  have c1_6 := (hB1.cell 6).trans (show _ = some (.slice tA ts.length tc) from rfl)
  go_wp2_with fail
  refine (rnumber_any _ _ g _ hW1 (by omega)).mono ?_
  rintro e w2 ⟨rfl, hW2, hC2⟩
  have hB2 := hC2.blk hB1 (by omega) (by decide)
  have hT2 := hT1.trans hC2
  have hlt2 := hB2.lt
  have hgl2 := hW2.lt
  have ll2 := S1.num_len x2
  generalize S1.num x2 = S2 at *
  have c2_0 := (hB2.cell 0).trans (show _ = some (.int .i64 x1) from rfl)
  have c2_1 := (hB2.cell 1).trans (show _ = some (.int .i64 x2) from rfl)
  have c2_2 := (hB2.cell 2).trans (show _ = some (.int .i64 x3) from rfl)
  have c2_3 := (hB2.cell 3).trans (show _ = some (.slice vA vl.length vc) from rfl)
  have c2_4 := (hB2.cell 4).trans (show _ = some (.slice mA ml.length mc) from rfl)
  have c2_5 := (hB2.cell 5).trans (show _ = some (.slice kA kl.length kc) from rfl)
  have c2_6 := (hB2.cell 6).trans (show _ = some (.slice tA ts.length tc) from rfl)
  go_wp2_with fail
  refine (rnumber_any _ _ g _ hW2 (by omega)).mono ?_
  rintro e w3 ⟨rfl, hW3, hC3⟩
  have hB3 := hC3.blk hB2 (by omega) (by decide)
  have hT3 := hT2.trans hC3
  have hlt3 := hB3.lt
  have hgl3 := hW3.lt
  have ll3 := S2.num_len x3
  generalize S2.num x3 = S3 at *
  have c3_0 := (hB3.cell 0).trans (show _ = some (.int .i64 x1) from rfl)
  have c3_1 := (hB3.cell 1).trans (show _ = some (.int .i64 x2) from rfl)
  have c3_2 := (hB3.cell 2).trans (show _ = some (.int .i64 x3) from rfl)
  have c3_3 := (hB3.cell 3).trans (show _ = some (.slice vA vl.length vc) from rfl)
  have c3_4 := (hB3.cell 4).trans (show _ = some (.slice mA ml.length mc) from rfl)
  have c3_5 := (hB3.cell 5).trans (show _ = some (.slice kA kl.length kc) from rfl)
  have c3_6 := (hB3.cell 6).trans (show _ = some (.slice tA ts.length tc) from rfl)
  go_wp2_with fail
  refine (rcount_any _ _ _ g _ hW3 (by omega)).mono ?_
  rintro e w4 ⟨rfl, hW4, hC4⟩
  have hB4 := hC4.blk hB3 (by omega) (by decide)
  have hT4 := hT3.trans hC4
  have hlt4 := hB4.lt
  have hgl4 := hW4.lt
  have ll4 := (S3.lim vl.length 512).num_len vl.length
  rw [HL_vl.out] at ll4
  generalize (S3.lim vl.length 512).num vl.length = S4 at *
  have c4_0 := (hB4.cell 0).trans (show _ = some (.int .i64 x1) from rfl)
  have c4_1 := (hB4.cell 1).trans (show _ = some (.int .i64 x2) from rfl)
  have c4_2 := (hB4.cell 2).trans (show _ = some (.int .i64 x3) from rfl)
  have c4_3 := (hB4.cell 3).trans (show _ = some (.slice vA vl.length vc) from rfl)
  have c4_4 := (hB4.cell 4).trans (show _ = some (.slice mA ml.length mc) from rfl)
  have c4_5 := (hB4.cell 5).trans (show _ = some (.slice kA kl.length kc) from rfl)
  have c4_6 := (hB4.cell 6).trans (show _ = some (.slice tA ts.length tc) from rfl)
  go_wp2_with fail
  go_loopw [4] (fun i wr => ∃ j : Nat, i = .int .i64 (j : Int) ∧ j ≤ vl.length ∧ Ref wr g ((vl.take j).foldl Out.vote S4) ∧ Blk wr w.heap.size 95 #[.int .i64 x1, .int .i64 x2, .int .i64 x3, .slice vA vl.length vc, .slice mA ml.length mc, .slice kA kl.length kc, .slice tA ts.length tc] ∧ Turned w wr g) (fun i _ => vl.length - (intOf i).toNat)
  case atStart => exact ⟨0, rfl, by omega, by simpa using hW4, hB4, hT4⟩
  case round =>
    obtain ⟨j5, rfl, hj5, hWx5, hBx5, hTx5⟩ := hrel
    have hgx5 := hWx5.lt
    have kx5 := (hBx5.cell 3).trans (show _ = some (Value.slice vA vl.length vc) from rfl)
    by_cases hlt5 : j5 < vl.length
    · as_aux_lemma =>
        have hji5 : (j5 : Int) < (vl.length : Int) := by omega
        obtain ⟨b, off, rfl, hbB, hc⟩ := VotesL.at_ (hTx5.rd hxv hB) hlt5
        have HSl := Lib.hid (fold_take Out.vote S4 vl j5 hlt5)
        have hle := fold_len Out.vote voteW Out.vote_lenW (vl.take j5) S4
        have hle2 := sumL_take voteW vl j5 hlt5
        have hok := hxv2 vl[j5] (List.getElem_mem hlt5)
        generalize hxx : vl[j5] = x at *
        clear hxx
        have d0 : wr.cell? ⟨b, off + j5 * 6, none⟩ = some (.int .i64 x.h) := hc 0 _ rfl
        have d1 : wr.cell? ⟨b, off + j5 * 6 + 1, none⟩ = some (.int .i64 x.r) := hc 1 _ rfl
        have d2 : wr.cell? ⟨b, off + j5 * 6 + 2, none⟩ = some (.int .i64 x.s) := hc 2 _ rfl
        have d3 : wr.cell? ⟨b, off + j5 * 6 + 3, none⟩ = some (.bool x.has) := hc 3 _ rfl
        have d4 : wr.cell? ⟨b, off + j5 * 6 + 4, none⟩ = some (.int .u64 x.b) := hc 4 _ rfl
        have d5 : wr.cell? ⟨b, off + j5 * 6 + 5, none⟩ = some (.int .i64 x.f) := hc 5 _ rfl
        clear hc
        go_wp2_with fail
        refine (rvote_any x hok _ g _ hWx5 (by unfold voteW at *; omega)).mono ?_
        rintro e w90 ⟨rfl, hW90, hC90⟩
        have hB90 := hC90.blk hBx5 (by omega) (by decide)
        have hT90 := hTx5.trans hC90
        go_wp2_with fail
        go_roundw
        case rel => exact ⟨j5 + 1, by go_num, by omega, by rw [HSl.out]; exact hW90, hB90, hT90⟩
        case measure => simp [intOf]; omega
    have hji5 : ¬ (j5 : Int) < (vl.length : Int) := by omega
    rw [List.take_of_length_le (by omega)] at hWx5
    have ll5 := fold_len Out.vote voteW Out.vote_lenW vl S4
    obtain ⟨w5, rfl⟩ : ∃ x : World, x = wr := ⟨_, rfl⟩
    obtain ⟨hW5, hB5, hT5⟩ : Ref w5 g (vl.foldl Out.vote S4) ∧ Blk w5 w.heap.size 95 #[.int .i64 x1, .int .i64 x2, .int .i64 x3, .slice vA vl.length vc, .slice mA ml.length mc, .slice kA kl.length kc, .slice tA ts.length tc] ∧ Turned w w5 g := ⟨hWx5, hBx5, hTx5⟩
    clear hWx5 hBx5 hTx5 hlt5
    generalize vl.foldl Out.vote S4 = S5 at *
    have hlt5 := hB5.lt
    have hgl5 := hW5.lt
    have c5_0 := (hB5.cell 0).trans (show _ = some (.int .i64 x1) from rfl)
    have c5_1 := (hB5.cell 1).trans (show _ = some (.int .i64 x2) from rfl)
    have c5_2 := (hB5.cell 2).trans (show _ = some (.int .i64 x3) from rfl)
    have c5_3 := (hB5.cell 3).trans (show _ = some (.slice vA vl.length vc) from rfl)
    have c5_4 := (hB5.cell 4).trans (show _ = some (.slice mA ml.length mc) from rfl)
    have c5_5 := (hB5.cell 5).trans (show _ = some (.slice kA kl.length kc) from rfl)
    have c5_6 := (hB5.cell 6).trans (show _ = some (.slice tA ts.length tc) from rfl)
    go_wp2_with fail
    refine (rcount_any _ _ _ g _ hW5 (by omega)).mono ?_
    rintro e w6 ⟨rfl, hW6, hC6⟩
    have hB6 := hC6.blk hB5 (by omega) (by decide)
    have hT6 := hT5.trans hC6
    have hlt6 := hB6.lt
    have hgl6 := hW6.lt
    have ll6 := (S5.lim ml.length 2).num_len ml.length
    rw [HL_ml.out] at ll6
    generalize (S5.lim ml.length 2).num ml.length = S6 at *
    have c6_0 := (hB6.cell 0).trans (show _ = some (.int .i64 x1) from rfl)
    have c6_1 := (hB6.cell 1).trans (show _ = some (.int .i64 x2) from rfl)
    have c6_2 := (hB6.cell 2).trans (show _ = some (.int .i64 x3) from rfl)
    have c6_3 := (hB6.cell 3).trans (show _ = some (.slice vA vl.length vc) from rfl)
    have c6_4 := (hB6.cell 4).trans (show _ = some (.slice mA ml.length mc) from rfl)
    have c6_5 := (hB6.cell 5).trans (show _ = some (.slice kA kl.length kc) from rfl)
    have c6_6 := (hB6.cell 6).trans (show _ = some (.slice tA ts.length tc) from rfl)
    go_wp2_with fail
    go_loopw [5] (fun i wr => ∃ j : Nat, i = .int .i64 (j : Int) ∧ j ≤ ml.length ∧ Ref wr g ((ml.take j).foldl Out.motion S6) ∧ Blk wr w.heap.size 95 #[.int .i64 x1, .int .i64 x2, .int .i64 x3, .slice vA vl.length vc, .slice mA ml.length mc, .slice kA kl.length kc, .slice tA ts.length tc] ∧ Turned w wr g) (fun i _ => ml.length - (intOf i).toNat)
    case atStart => exact ⟨0, rfl, by omega, by simpa using hW6, hB6, hT6⟩
    case round =>
      obtain ⟨j7, rfl, hj7, hWx7, hBx7, hTx7⟩ := hrel
      have hgx7 := hWx7.lt
      have kx7 := (hBx7.cell 4).trans (show _ = some (Value.slice mA ml.length mc) from rfl)
      by_cases hlt7 : j7 < ml.length
      · as_aux_lemma =>
          have hji7 : (j7 : Int) < (ml.length : Int) := by omega
          obtain ⟨b, off, rfl, hbB, hc⟩ := MotionsL.at_ (hTx7.rd hxm hB) hlt7
          have HSl := Lib.hid (fold_take Out.motion S6 ml j7 hlt7)
          have hle := fold_len Out.motion motionW Out.motion_lenW (ml.take j7) S6
          have hle2 := sumL_take motionW ml j7 hlt7
          have hx := (hxm2 ml[j7] (List.getElem_mem hlt7)).below (hTx7.low.mono hB)
          generalize hxx : ml[j7] = x at *
          clear hxx
          have d0 : wr.cell? ⟨b, off + j7 * 14, none⟩ = some (.int .i64 x.r) := hc 0 _ rfl
          have d1 : wr.cell? ⟨b, off + j7 * 14 + 1, none⟩ = some (.int .i64 x.f) := hc 1 _ rfl
          have d2 : wr.cell? ⟨b, off + j7 * 14 + 2, none⟩ = some (.int .i64 x.block.header.c) := hc 2 _ rfl
          have d3 : wr.cell? ⟨b, off + j7 * 14 + 3, none⟩ = some (.int .i64 x.block.header.h) := hc 3 _ rfl
          have d4 : wr.cell? ⟨b, off + j7 * 14 + 4, none⟩ = some (.int .u64 x.block.header.p) := hc 4 _ rfl
          have d5 : wr.cell? ⟨b, off + j7 * 14 + 5, none⟩ = some (.int .u64 x.block.header.t) := hc 5 _ rfl
          have d6 : wr.cell? ⟨b, off + j7 * 14 + 6, none⟩ = some (.int .u64 x.block.header.g) := hc 6 _ rfl
          have d7 : wr.cell? ⟨b, off + j7 * 14 + 7, none⟩ = some (.int .u64 x.block.header.s) := hc 7 _ rfl
          have d8 : wr.cell? ⟨b, off + j7 * 14 + 8, none⟩ = some (.int .u64 x.block.header.r) := hc 8 _ rfl
          have d9 : wr.cell? ⟨b, off + j7 * 14 + 9, none⟩ = some (.int .u64 x.block.header.b) := hc 9 _ rfl
          have d10 : wr.cell? ⟨b, off + j7 * 14 + 10, none⟩ = some (.int .i64 x.block.header.o) := hc 10 _ rfl
          have d11 : wr.cell? ⟨b, off + j7 * 14 + 11, none⟩ = some (.slice x.block.ta x.block.txs.length x.block.tc) := hc 11 _ rfl
          have d12 : wr.cell? ⟨b, off + j7 * 14 + 12, none⟩ = some (.slice x.block.ga x.block.guilts.length x.block.gc) := hc 12 _ rfl
          have d13 : wr.cell? ⟨b, off + j7 * 14 + 13, none⟩ = some (.slice x.ba x.basis.length x.bc) := hc 13 _ rfl
          clear hc
          go_wp2_with fail
          refine (rmotion_any x B _ g _ hWx7 (by unfold motionW at *; omega) hx hB).mono ?_
          rintro e w90 ⟨rfl, hW90, hC90⟩
          have hB90 := hC90.blk hBx7 (by omega) (by decide)
          have hT90 := hTx7.trans hC90
          go_wp2_with fail
          go_roundw
          case rel => exact ⟨j7 + 1, by go_num, by omega, by rw [HSl.out]; exact hW90, hB90, hT90⟩
          case measure => simp [intOf]; omega
      have hji7 : ¬ (j7 : Int) < (ml.length : Int) := by omega
      rw [List.take_of_length_le (by omega)] at hWx7
      have ll7 := fold_len Out.motion motionW Out.motion_lenW ml S6
      obtain ⟨w7, rfl⟩ : ∃ x : World, x = wr := ⟨_, rfl⟩
      obtain ⟨hW7, hB7, hT7⟩ : Ref w7 g (ml.foldl Out.motion S6) ∧ Blk w7 w.heap.size 95 #[.int .i64 x1, .int .i64 x2, .int .i64 x3, .slice vA vl.length vc, .slice mA ml.length mc, .slice kA kl.length kc, .slice tA ts.length tc] ∧ Turned w w7 g := ⟨hWx7, hBx7, hTx7⟩
      clear hWx7 hBx7 hTx7 hlt7
      generalize ml.foldl Out.motion S6 = S7 at *
      have hlt7 := hB7.lt
      have hgl7 := hW7.lt
      have c7_0 := (hB7.cell 0).trans (show _ = some (.int .i64 x1) from rfl)
      have c7_1 := (hB7.cell 1).trans (show _ = some (.int .i64 x2) from rfl)
      have c7_2 := (hB7.cell 2).trans (show _ = some (.int .i64 x3) from rfl)
      have c7_3 := (hB7.cell 3).trans (show _ = some (.slice vA vl.length vc) from rfl)
      have c7_4 := (hB7.cell 4).trans (show _ = some (.slice mA ml.length mc) from rfl)
      have c7_5 := (hB7.cell 5).trans (show _ = some (.slice kA kl.length kc) from rfl)
      have c7_6 := (hB7.cell 6).trans (show _ = some (.slice tA ts.length tc) from rfl)
      go_wp2_with fail
      refine (rcount_any _ _ _ g _ hW7 (by omega)).mono ?_
      rintro e w8 ⟨rfl, hW8, hC8⟩
      have hB8 := hC8.blk hB7 (by omega) (by decide)
      have hT8 := hT7.trans hC8
      have hlt8 := hB8.lt
      have hgl8 := hW8.lt
      have ll8 := (S7.lim kl.length 2).num_len kl.length
      rw [HL_kl.out] at ll8
      generalize (S7.lim kl.length 2).num kl.length = S8 at *
      have c8_0 := (hB8.cell 0).trans (show _ = some (.int .i64 x1) from rfl)
      have c8_1 := (hB8.cell 1).trans (show _ = some (.int .i64 x2) from rfl)
      have c8_2 := (hB8.cell 2).trans (show _ = some (.int .i64 x3) from rfl)
      have c8_3 := (hB8.cell 3).trans (show _ = some (.slice vA vl.length vc) from rfl)
      have c8_4 := (hB8.cell 4).trans (show _ = some (.slice mA ml.length mc) from rfl)
      have c8_5 := (hB8.cell 5).trans (show _ = some (.slice kA kl.length kc) from rfl)
      have c8_6 := (hB8.cell 6).trans (show _ = some (.slice tA ts.length tc) from rfl)
      go_wp2_with fail
      go_loopw [6] (fun i wr => ∃ j : Nat, i = .int .i64 (j : Int) ∧ j ≤ kl.length ∧ Ref wr g ((kl.take j).foldl Out.known S8) ∧ Blk wr w.heap.size 95 #[.int .i64 x1, .int .i64 x2, .int .i64 x3, .slice vA vl.length vc, .slice mA ml.length mc, .slice kA kl.length kc, .slice tA ts.length tc] ∧ Turned w wr g) (fun i _ => kl.length - (intOf i).toNat)
      case atStart => exact ⟨0, rfl, by omega, by simpa using hW8, hB8, hT8⟩
      case round =>
        obtain ⟨j9, rfl, hj9, hWx9, hBx9, hTx9⟩ := hrel
        have hgx9 := hWx9.lt
        have kx9 := (hBx9.cell 5).trans (show _ = some (Value.slice kA kl.length kc) from rfl)
        by_cases hlt9 : j9 < kl.length
        · as_aux_lemma =>
            have hji9 : (j9 : Int) < (kl.length : Int) := by omega
            obtain ⟨b, off, rfl, hbB, hc⟩ := KnownsL.at_ (hTx9.rd hxk hB) hlt9
            have HSl := Lib.hid (fold_take Out.known S8 kl j9 hlt9)
            have hle := fold_len Out.known knownW Out.known_lenW (kl.take j9) S8
            have hle2 := sumL_take knownW kl j9 hlt9
            have hx := (hxk2 kl[j9] (List.getElem_mem hlt9)).below (hTx9.low.mono hB)
            generalize hxx : kl[j9] = x at *
            clear hxx
            have d0 : wr.cell? ⟨b, off + j9 * 17, none⟩ = some (.int .i64 x.cert.h) := hc 0 _ rfl
            have d1 : wr.cell? ⟨b, off + j9 * 17 + 1, none⟩ = some (.int .i64 x.cert.r) := hc 1 _ rfl
            have d2 : wr.cell? ⟨b, off + j9 * 17 + 2, none⟩ = some (.int .i64 x.cert.s) := hc 2 _ rfl
            have d3 : wr.cell? ⟨b, off + j9 * 17 + 3, none⟩ = some (.bool x.cert.has) := hc 3 _ rfl
            have d4 : wr.cell? ⟨b, off + j9 * 17 + 4, none⟩ = some (.int .u64 x.cert.b) := hc 4 _ rfl
            have d5 : wr.cell? ⟨b, off + j9 * 17 + 5, none⟩ = some (.slice x.cert.fa x.cert.froms.length x.cert.fc) := hc 5 _ rfl
            have d6 : wr.cell? ⟨b, off + j9 * 17 + 6, none⟩ = some (.int .i64 x.block.header.c) := hc 6 _ rfl
            have d7 : wr.cell? ⟨b, off + j9 * 17 + 7, none⟩ = some (.int .i64 x.block.header.h) := hc 7 _ rfl
            have d8 : wr.cell? ⟨b, off + j9 * 17 + 8, none⟩ = some (.int .u64 x.block.header.p) := hc 8 _ rfl
            have d9 : wr.cell? ⟨b, off + j9 * 17 + 9, none⟩ = some (.int .u64 x.block.header.t) := hc 9 _ rfl
            have d10 : wr.cell? ⟨b, off + j9 * 17 + 10, none⟩ = some (.int .u64 x.block.header.g) := hc 10 _ rfl
            have d11 : wr.cell? ⟨b, off + j9 * 17 + 11, none⟩ = some (.int .u64 x.block.header.s) := hc 11 _ rfl
            have d12 : wr.cell? ⟨b, off + j9 * 17 + 12, none⟩ = some (.int .u64 x.block.header.r) := hc 12 _ rfl
            have d13 : wr.cell? ⟨b, off + j9 * 17 + 13, none⟩ = some (.int .u64 x.block.header.b) := hc 13 _ rfl
            have d14 : wr.cell? ⟨b, off + j9 * 17 + 14, none⟩ = some (.int .i64 x.block.header.o) := hc 14 _ rfl
            have d15 : wr.cell? ⟨b, off + j9 * 17 + 15, none⟩ = some (.slice x.block.ta x.block.txs.length x.block.tc) := hc 15 _ rfl
            have d16 : wr.cell? ⟨b, off + j9 * 17 + 16, none⟩ = some (.slice x.block.ga x.block.guilts.length x.block.gc) := hc 16 _ rfl
            clear hc
            go_wp2_with fail
            refine (rknown_any x B _ g _ hWx9 (by unfold knownW at *; omega) hx hB).mono ?_
            rintro e w90 ⟨rfl, hW90, hC90⟩
            have hB90 := hC90.blk hBx9 (by omega) (by decide)
            have hT90 := hTx9.trans hC90
            go_wp2_with fail
            go_roundw
            case rel => exact ⟨j9 + 1, by go_num, by omega, by rw [HSl.out]; exact hW90, hB90, hT90⟩
            case measure => simp [intOf]; omega
        have hji9 : ¬ (j9 : Int) < (kl.length : Int) := by omega
        rw [List.take_of_length_le (by omega)] at hWx9
        have ll9 := fold_len Out.known knownW Out.known_lenW kl S8
        obtain ⟨w9, rfl⟩ : ∃ x : World, x = wr := ⟨_, rfl⟩
        obtain ⟨hW9, hB9, hT9⟩ : Ref w9 g (kl.foldl Out.known S8) ∧ Blk w9 w.heap.size 95 #[.int .i64 x1, .int .i64 x2, .int .i64 x3, .slice vA vl.length vc, .slice mA ml.length mc, .slice kA kl.length kc, .slice tA ts.length tc] ∧ Turned w w9 g := ⟨hWx9, hBx9, hTx9⟩
        clear hWx9 hBx9 hTx9 hlt9
        generalize kl.foldl Out.known S8 = S9 at *
        have hlt9 := hB9.lt
        have hgl9 := hW9.lt
        have c9_0 := (hB9.cell 0).trans (show _ = some (.int .i64 x1) from rfl)
        have c9_1 := (hB9.cell 1).trans (show _ = some (.int .i64 x2) from rfl)
        have c9_2 := (hB9.cell 2).trans (show _ = some (.int .i64 x3) from rfl)
        have c9_3 := (hB9.cell 3).trans (show _ = some (.slice vA vl.length vc) from rfl)
        have c9_4 := (hB9.cell 4).trans (show _ = some (.slice mA ml.length mc) from rfl)
        have c9_5 := (hB9.cell 5).trans (show _ = some (.slice kA kl.length kc) from rfl)
        have c9_6 := (hB9.cell 6).trans (show _ = some (.slice tA ts.length tc) from rfl)
        go_wp2_with fail
        refine (rcount_any _ _ _ g _ hW9 (by omega)).mono ?_
        rintro e w10 ⟨rfl, hW10, hC10⟩
        have hB10 := hC10.blk hB9 (by omega) (by decide)
        have hT10 := hT9.trans hC10
        have hlt10 := hB10.lt
        have hgl10 := hW10.lt
        have ll10 := (S9.lim ts.length 16).num_len ts.length
        rw [HL_ts.out] at ll10
        generalize (S9.lim ts.length 16).num ts.length = S10 at *
        have c10_0 := (hB10.cell 0).trans (show _ = some (.int .i64 x1) from rfl)
        have c10_1 := (hB10.cell 1).trans (show _ = some (.int .i64 x2) from rfl)
        have c10_2 := (hB10.cell 2).trans (show _ = some (.int .i64 x3) from rfl)
        have c10_3 := (hB10.cell 3).trans (show _ = some (.slice vA vl.length vc) from rfl)
        have c10_4 := (hB10.cell 4).trans (show _ = some (.slice mA ml.length mc) from rfl)
        have c10_5 := (hB10.cell 5).trans (show _ = some (.slice kA kl.length kc) from rfl)
        have c10_6 := (hB10.cell 6).trans (show _ = some (.slice tA ts.length tc) from rfl)
        go_wp2_with fail
        go_loopw [7] (fun i wr => ∃ j : Nat, i = .int .i64 (j : Int) ∧ j ≤ ts.length ∧ Ref wr g ((ts.take j).foldl Out.tx S10) ∧ Blk wr w.heap.size 95 #[.int .i64 x1, .int .i64 x2, .int .i64 x3, .slice vA vl.length vc, .slice mA ml.length mc, .slice kA kl.length kc, .slice tA ts.length tc] ∧ Turned w wr g) (fun i _ => ts.length - (intOf i).toNat)
        case atStart => exact ⟨0, rfl, by omega, by simpa using hW10, hB10, hT10⟩
        case round =>
          obtain ⟨j11, rfl, hj11, hWx11, hBx11, hTx11⟩ := hrel
          have hgx11 := hWx11.lt
          have kx11 := (hBx11.cell 6).trans (show _ = some (Value.slice tA ts.length tc) from rfl)
          by_cases hlt11 : j11 < ts.length
          · as_aux_lemma =>
              have hji11 : (j11 : Int) < (ts.length : Int) := by omega
              obtain ⟨b, off, rfl, hbB, hc⟩ := TxsL.at_ (hTx11.rd hxt hB) hlt11
              have HSl := Lib.hid (fold_take Out.tx S10 ts j11 hlt11)
              have hle := fold_len Out.tx txW Out.tx_lenW (ts.take j11) S10
              have hle2 := sumL_take txW ts j11 hlt11
              have hx := (hxt2 ts[j11] (List.getElem_mem hlt11)).below (hTx11.low.mono hB)
              generalize hxx : ts[j11] = x at *
              clear hxx
              have d0 : wr.cell? ⟨b, off + j11 * 11, none⟩ = some (.int .i64 x.k) := hc 0 _ rfl
              have d1 : wr.cell? ⟨b, off + j11 * 11 + 1, none⟩ = some (.int .i64 x.f) := hc 1 _ rfl
              have d2 : wr.cell? ⟨b, off + j11 * 11 + 2, none⟩ = some (.int .i64 x.n) := hc 2 _ rfl
              have d3 : wr.cell? ⟨b, off + j11 * 11 + 3, none⟩ = some (.int .i64 x.p) := hc 3 _ rfl
              have d4 : wr.cell? ⟨b, off + j11 * 11 + 4, none⟩ = some (.int .i64 x.l) := hc 4 _ rfl
              have d5 : wr.cell? ⟨b, off + j11 * 11 + 5, none⟩ = some (.int .i64 x.t) := hc 5 _ rfl
              have d6 : wr.cell? ⟨b, off + j11 * 11 + 6, none⟩ = some (.int .i64 x.a) := hc 6 _ rfl
              have d7 : wr.cell? ⟨b, off + j11 * 11 + 7, none⟩ = some (.string (bs x.text)) := hc 7 _ rfl
              have d8 : wr.cell? ⟨b, off + j11 * 11 + 8, none⟩ = some (.slice x.aa x.args.length x.ac) := hc 8 _ rfl
              have d9 : wr.cell? ⟨b, off + j11 * 11 + 9, none⟩ = some (.slice x.sa x.sights.length x.sc) := hc 9 _ rfl
              have d10 : wr.cell? ⟨b, off + j11 * 11 + 10, none⟩ = some (.slice x.pa x.proofs.length x.pc) := hc 10 _ rfl
              clear hc
              go_wp2_with fail
              refine (rtx_any x B _ g _ hWx11 (by unfold txW at *; omega) hx hB).mono ?_
              rintro e w90 ⟨rfl, hW90, hC90⟩
              have hB90 := hC90.blk hBx11 (by omega) (by decide)
              have hT90 := hTx11.trans hC90
              go_wp2_with fail
              go_roundw
              case rel => exact ⟨j11 + 1, by go_num, by omega, by rw [HSl.out]; exact hW90, hB90, hT90⟩
              case measure => simp [intOf]; omega
          have hji11 : ¬ (j11 : Int) < (ts.length : Int) := by omega
          rw [List.take_of_length_le (by omega)] at hWx11
          have ll11 := fold_len Out.tx txW Out.tx_lenW ts S10
          obtain ⟨w11, rfl⟩ : ∃ x : World, x = wr := ⟨_, rfl⟩
          obtain ⟨hW11, hB11, hT11⟩ : Ref w11 g (ts.foldl Out.tx S10) ∧ Blk w11 w.heap.size 95 #[.int .i64 x1, .int .i64 x2, .int .i64 x3, .slice vA vl.length vc, .slice mA ml.length mc, .slice kA kl.length kc, .slice tA ts.length tc] ∧ Turned w w11 g := ⟨hWx11, hBx11, hTx11⟩
          clear hWx11 hBx11 hTx11 hlt11
          generalize ts.foldl Out.tx S10 = S11 at *
          have hlt11 := hB11.lt
          have hgl11 := hW11.lt
          have c11_0 := (hB11.cell 0).trans (show _ = some (.int .i64 x1) from rfl)
          have c11_1 := (hB11.cell 1).trans (show _ = some (.int .i64 x2) from rfl)
          have c11_2 := (hB11.cell 2).trans (show _ = some (.int .i64 x3) from rfl)
          have c11_3 := (hB11.cell 3).trans (show _ = some (.slice vA vl.length vc) from rfl)
          have c11_4 := (hB11.cell 4).trans (show _ = some (.slice mA ml.length mc) from rfl)
          have c11_5 := (hB11.cell 5).trans (show _ = some (.slice kA kl.length kc) from rfl)
          have c11_6 := (hB11.cell 6).trans (show _ = some (.slice tA ts.length tc) from rfl)
          go_wp2_with fail
          all_goals
            refine (rneed_any _ _ g _ hW11).mono ?_
            rintro e w12 ⟨rfl, hW12, hC12⟩
            have hB12 := hC12.blk hB11 (by omega) (by decide)
            have hT12 := hT11.trans hC12
            have hlt12 := hB12.lt
            have hgl12 := hW12.lt
            go_wp2_with fail
            go_end0
            exact ⟨rfl, Ref.eq hW12 (by rw [hE.out] <;> (first | rfl | (congr 1; grind))), hT12⟩
end Go.Proofs.Ytjmkcndjjfokiaa
