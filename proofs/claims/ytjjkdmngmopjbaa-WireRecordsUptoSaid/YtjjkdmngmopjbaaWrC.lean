/- The reference's writer: blocks, motions, knowns. -/
import Derived.Test.YtjjkdmngmopjbaaProg
import Derived.Test.YtjjkdmngmopjbaaWr18t
import Derived.Test.YtjjkdmngmopjbaaWrV
namespace Go.Proofs.Ytjjkdmngmopjbaa
open Go.RowKit
set_option maxRecDepth 100000 in
set_option maxHeartbeats 4000000 in
theorem rblock_any (x : BlockD) (B : Nat) (w : World) (g : Nat) (S : Out) (h : Ref w g S) (hl : S.b.length + 40 * blockM x ≤ 58999999950000) (hx : x.held w B) (hB : B ≤ g) :
    Calls Try.prog 145 #[.pointer (some ⟨g, 0, none⟩), x.val] w fun e w' => e = .returned (.tuple #[]) ∧ Ref w' g (S.block x) ∧ Turned w w' g := by
  have hgt := h.lt
  have hE : Hid (S.block x = x.guilts.foldl Out.guilt (((x.txs.foldl Out.tx (((S.header x.header).lim x.txs.length 16).num x.txs.length)).lim x.guilts.length 4).num x.guilts.length)) := rfl
  obtain ⟨⟨h1, h2, h3, h4, h5, h6, h7, h8, h9⟩, ts, tA, tc, gs, gA, gc⟩ := x
  simp only [blockM, headerM] at hl
  try dsimp only at hl
  obtain ⟨hxh, hxt, hxg, ⟨hs0, hs1⟩, hxq, hxo⟩ := hx
  dsimp only at hxh hxt hxg hs0 hs1 hxq hxo
  have hsw1 := txs_W ts
  have hsw2 : sumL guiltW gs = 66 * gs.length := sumL_const 66 gs
  have hsw3 : sumL guiltM gs = 15 * gs.length := sumL_const 15 gs
  unfold maxLen at hs0 hs1
  have HL_ts : Hid (∀ S' : Out, (S'.lim ts.length 16).b.length = S'.b.length) := fun _ => rfl
  have HL_gs : Hid (∀ S' : Out, (S'.lim gs.length 4).b.length = S'.b.length) := fun _ => rfl
  dsimp only [BlockD.val]
  go_enter Try.func145, Try.ntmps145
  go_wp2_with fail
  refine (rheader_any ⟨h1, h2, h3, h4, h5, h6, h7, h8, h9⟩ hxh _ g _ (h.alloc _) (by omega)).mono ?_
  rintro e w1 ⟨rfl, hW1, hC1⟩
  have hB1 := hC1.blk (Blk.new _ _ _) (by omega) (by decide)
  have hT1 := ((Turned.refl w g).alloc (by omega) _).trans hC1
  have hlt1 := hB1.lt
  have hgl1 := hW1.lt
  have ll1 := S.header_len ⟨h1, h2, h3, h4, h5, h6, h7, h8, h9⟩
  generalize S.header ⟨h1, h2, h3, h4, h5, h6, h7, h8, h9⟩ = S1 at *
  have c1_0 := (hB1.cell 0).trans (show _ = some (.int .i64 h1) from rfl)
  have c1_1 := (hB1.cell 1).trans (show _ = some (.int .i64 h2) from rfl)
  have c1_2 := (hB1.cell 2).trans (show _ = some (.int .u64 h3) from rfl)
  have c1_3 := (hB1.cell 3).trans (show _ = some (.int .u64 h4) from rfl)
  have c1_4 := (hB1.cell 4).trans (show _ = some (.int .u64 h5) from rfl)
  have c1_5 := (hB1.cell 5).trans (show _ = some (.int .u64 h6) from rfl)
  have c1_6 := (hB1.cell 6).trans (show _ = some (.int .u64 h7) from rfl)
  have c1_7 := (hB1.cell 7).trans (show _ = some (.int .u64 h8) from rfl)
  have c1_8 := (hB1.cell 8).trans (show _ = some (.int .i64 h9) from rfl)
  have c1_9 := (hB1.cell 9).trans (show _ = some (.slice tA ts.length tc) from rfl)
  have c1_10 := (hB1.cell 10).trans (show _ = some (.slice gA gs.length gc) from rfl)
  go_wp2_with fail
  refine (rcount_any _ _ _ g _ hW1 (by omega)).mono ?_
  rintro e w2 ⟨rfl, hW2, hC2⟩
  have hB2 := hC2.blk hB1 (by omega) (by decide)
  have hT2 := hT1.trans hC2
  have hlt2 := hB2.lt
  have hgl2 := hW2.lt
  have ll2 := (S1.lim ts.length 16).num_len ts.length
  rw [HL_ts.out] at ll2
  generalize (S1.lim ts.length 16).num ts.length = S2 at *
  have c2_0 := (hB2.cell 0).trans (show _ = some (.int .i64 h1) from rfl)
  have c2_1 := (hB2.cell 1).trans (show _ = some (.int .i64 h2) from rfl)
  have c2_2 := (hB2.cell 2).trans (show _ = some (.int .u64 h3) from rfl)
  have c2_3 := (hB2.cell 3).trans (show _ = some (.int .u64 h4) from rfl)
  have c2_4 := (hB2.cell 4).trans (show _ = some (.int .u64 h5) from rfl)
  have c2_5 := (hB2.cell 5).trans (show _ = some (.int .u64 h6) from rfl)
  have c2_6 := (hB2.cell 6).trans (show _ = some (.int .u64 h7) from rfl)
  have c2_7 := (hB2.cell 7).trans (show _ = some (.int .u64 h8) from rfl)
  have c2_8 := (hB2.cell 8).trans (show _ = some (.int .i64 h9) from rfl)
  have c2_9 := (hB2.cell 9).trans (show _ = some (.slice tA ts.length tc) from rfl)
  have c2_10 := (hB2.cell 10).trans (show _ = some (.slice gA gs.length gc) from rfl)
  go_wp2_with fail
  go_loopw [4] (fun i wr => ∃ j : Nat, i = .int .i64 (j : Int) ∧ j ≤ ts.length ∧ Ref wr g ((ts.take j).foldl Out.tx S2) ∧ Blk wr w.heap.size 31 #[.int .i64 h1, .int .i64 h2, .int .u64 h3, .int .u64 h4, .int .u64 h5, .int .u64 h6, .int .u64 h7, .int .u64 h8, .int .i64 h9, .slice tA ts.length tc, .slice gA gs.length gc] ∧ Turned w wr g) (fun i _ => ts.length - (intOf i).toNat)
  case atStart => exact ⟨0, rfl, by omega, by simpa using hW2, hB2, hT2⟩
  case round =>
    obtain ⟨j3, rfl, hj3, hWx3, hBx3, hTx3⟩ := hrel
    have hgx3 := hWx3.lt
    have kx3 := (hBx3.cell 9).trans (show _ = some (Value.slice tA ts.length tc) from rfl)
    by_cases hlt3 : j3 < ts.length
    · as_aux_lemma =>
        have hji3 : (j3 : Int) < (ts.length : Int) := by omega
        obtain ⟨b, off, rfl, hbB, hc⟩ := TxsL.at_ (hTx3.rd hxt hB) hlt3
        have HSl := Lib.hid (fold_take Out.tx S2 ts j3 hlt3)
        have hle := fold_len Out.tx txW Out.tx_lenW (ts.take j3) S2
        have hle2 := sumL_take txW ts j3 hlt3
        have hx := (hxq ts[j3] (List.getElem_mem hlt3)).below (hTx3.low.mono hB)
        generalize hxx : ts[j3] = x at *
        clear hxx
        have d0 : wr.cell? ⟨b, off + j3 * 11, none⟩ = some (.int .i64 x.k) := hc 0 _ rfl
        have d1 : wr.cell? ⟨b, off + j3 * 11 + 1, none⟩ = some (.int .i64 x.f) := hc 1 _ rfl
        have d2 : wr.cell? ⟨b, off + j3 * 11 + 2, none⟩ = some (.int .i64 x.n) := hc 2 _ rfl
        have d3 : wr.cell? ⟨b, off + j3 * 11 + 3, none⟩ = some (.int .i64 x.p) := hc 3 _ rfl
        have d4 : wr.cell? ⟨b, off + j3 * 11 + 4, none⟩ = some (.int .i64 x.l) := hc 4 _ rfl
        have d5 : wr.cell? ⟨b, off + j3 * 11 + 5, none⟩ = some (.int .i64 x.t) := hc 5 _ rfl
        have d6 : wr.cell? ⟨b, off + j3 * 11 + 6, none⟩ = some (.int .i64 x.a) := hc 6 _ rfl
        have d7 : wr.cell? ⟨b, off + j3 * 11 + 7, none⟩ = some (.string (bs x.text)) := hc 7 _ rfl
        have d8 : wr.cell? ⟨b, off + j3 * 11 + 8, none⟩ = some (.slice x.aa x.args.length x.ac) := hc 8 _ rfl
        have d9 : wr.cell? ⟨b, off + j3 * 11 + 9, none⟩ = some (.slice x.sa x.sights.length x.sc) := hc 9 _ rfl
        have d10 : wr.cell? ⟨b, off + j3 * 11 + 10, none⟩ = some (.slice x.pa x.proofs.length x.pc) := hc 10 _ rfl
        clear hc
        go_wp2_with fail
        refine (rtx_any x B _ g _ hWx3 (by unfold txW at *; omega) hx hB).mono ?_
        rintro e w90 ⟨rfl, hW90, hC90⟩
        have hB90 := hC90.blk hBx3 (by omega) (by decide)
        have hT90 := hTx3.trans hC90
        go_wp2_with fail
        go_roundw
        case rel => exact ⟨j3 + 1, by go_num, by omega, by rw [HSl.out]; exact hW90, hB90, hT90⟩
        case measure => simp [intOf]; omega
    have hji3 : ¬ (j3 : Int) < (ts.length : Int) := by omega
    rw [List.take_of_length_le (by omega)] at hWx3
    have ll3 := fold_len Out.tx txW Out.tx_lenW ts S2
    obtain ⟨w3, rfl⟩ : ∃ x : World, x = wr := ⟨_, rfl⟩
    obtain ⟨hW3, hB3, hT3⟩ : Ref w3 g (ts.foldl Out.tx S2) ∧ Blk w3 w.heap.size 31 #[.int .i64 h1, .int .i64 h2, .int .u64 h3, .int .u64 h4, .int .u64 h5, .int .u64 h6, .int .u64 h7, .int .u64 h8, .int .i64 h9, .slice tA ts.length tc, .slice gA gs.length gc] ∧ Turned w w3 g := ⟨hWx3, hBx3, hTx3⟩
    clear hWx3 hBx3 hTx3 hlt3
    generalize ts.foldl Out.tx S2 = S3 at *
    have hlt3 := hB3.lt
    have hgl3 := hW3.lt
    have c3_0 := (hB3.cell 0).trans (show _ = some (.int .i64 h1) from rfl)
    have c3_1 := (hB3.cell 1).trans (show _ = some (.int .i64 h2) from rfl)
    have c3_2 := (hB3.cell 2).trans (show _ = some (.int .u64 h3) from rfl)
    have c3_3 := (hB3.cell 3).trans (show _ = some (.int .u64 h4) from rfl)
    have c3_4 := (hB3.cell 4).trans (show _ = some (.int .u64 h5) from rfl)
    have c3_5 := (hB3.cell 5).trans (show _ = some (.int .u64 h6) from rfl)
    have c3_6 := (hB3.cell 6).trans (show _ = some (.int .u64 h7) from rfl)
    have c3_7 := (hB3.cell 7).trans (show _ = some (.int .u64 h8) from rfl)
    have c3_8 := (hB3.cell 8).trans (show _ = some (.int .i64 h9) from rfl)
    have c3_9 := (hB3.cell 9).trans (show _ = some (.slice tA ts.length tc) from rfl)
    have c3_10 := (hB3.cell 10).trans (show _ = some (.slice gA gs.length gc) from rfl)
    go_wp2_with fail
    refine (rcount_any _ _ _ g _ hW3 (by omega)).mono ?_
    rintro e w4 ⟨rfl, hW4, hC4⟩
    have hB4 := hC4.blk hB3 (by omega) (by decide)
    have hT4 := hT3.trans hC4
    have hlt4 := hB4.lt
    have hgl4 := hW4.lt
    have ll4 := (S3.lim gs.length 4).num_len gs.length
    rw [HL_gs.out] at ll4
    generalize (S3.lim gs.length 4).num gs.length = S4 at *
    have c4_0 := (hB4.cell 0).trans (show _ = some (.int .i64 h1) from rfl)
    have c4_1 := (hB4.cell 1).trans (show _ = some (.int .i64 h2) from rfl)
    have c4_2 := (hB4.cell 2).trans (show _ = some (.int .u64 h3) from rfl)
    have c4_3 := (hB4.cell 3).trans (show _ = some (.int .u64 h4) from rfl)
    have c4_4 := (hB4.cell 4).trans (show _ = some (.int .u64 h5) from rfl)
    have c4_5 := (hB4.cell 5).trans (show _ = some (.int .u64 h6) from rfl)
    have c4_6 := (hB4.cell 6).trans (show _ = some (.int .u64 h7) from rfl)
    have c4_7 := (hB4.cell 7).trans (show _ = some (.int .u64 h8) from rfl)
    have c4_8 := (hB4.cell 8).trans (show _ = some (.int .i64 h9) from rfl)
    have c4_9 := (hB4.cell 9).trans (show _ = some (.slice tA ts.length tc) from rfl)
    have c4_10 := (hB4.cell 10).trans (show _ = some (.slice gA gs.length gc) from rfl)
    go_wp2_with fail
    go_loopw [5] (fun i wr => ∃ j : Nat, i = .int .i64 (j : Int) ∧ j ≤ gs.length ∧ Ref wr g ((gs.take j).foldl Out.guilt S4) ∧ Blk wr w.heap.size 31 #[.int .i64 h1, .int .i64 h2, .int .u64 h3, .int .u64 h4, .int .u64 h5, .int .u64 h6, .int .u64 h7, .int .u64 h8, .int .i64 h9, .slice tA ts.length tc, .slice gA gs.length gc] ∧ Turned w wr g) (fun i _ => gs.length - (intOf i).toNat)
    case atStart => exact ⟨0, rfl, by omega, by simpa using hW4, hB4, hT4⟩
    case round =>
      obtain ⟨j5, rfl, hj5, hWx5, hBx5, hTx5⟩ := hrel
      have hgx5 := hWx5.lt
      have kx5 := (hBx5.cell 10).trans (show _ = some (Value.slice gA gs.length gc) from rfl)
      by_cases hlt5 : j5 < gs.length
      · as_aux_lemma =>
          have hji5 : (j5 : Int) < (gs.length : Int) := by omega
          obtain ⟨b, off, rfl, hbB, hc⟩ := GuiltsL.at_ (hTx5.rd hxg hB) hlt5
          have HSl := Lib.hid (fold_take Out.guilt S4 gs j5 hlt5)
          have hle := fold_len Out.guilt guiltW Out.guilt_lenW (gs.take j5) S4
          have hle2 := sumL_take guiltW gs j5 hlt5
          have hok := hxo gs[j5] (List.getElem_mem hlt5)
          generalize hxx : gs[j5] = x at *
          clear hxx
          have d0 : wr.cell? ⟨b, off + j5 * 12, none⟩ = some (.int .i64 x.a.h) := hc 0 _ rfl
          have d1 : wr.cell? ⟨b, off + j5 * 12 + 1, none⟩ = some (.int .i64 x.a.r) := hc 1 _ rfl
          have d2 : wr.cell? ⟨b, off + j5 * 12 + 2, none⟩ = some (.int .i64 x.a.s) := hc 2 _ rfl
          have d3 : wr.cell? ⟨b, off + j5 * 12 + 3, none⟩ = some (.bool x.a.has) := hc 3 _ rfl
          have d4 : wr.cell? ⟨b, off + j5 * 12 + 4, none⟩ = some (.int .u64 x.a.b) := hc 4 _ rfl
          have d5 : wr.cell? ⟨b, off + j5 * 12 + 5, none⟩ = some (.int .i64 x.a.f) := hc 5 _ rfl
          have d6 : wr.cell? ⟨b, off + j5 * 12 + 6, none⟩ = some (.int .i64 x.b.h) := hc 6 _ rfl
          have d7 : wr.cell? ⟨b, off + j5 * 12 + 7, none⟩ = some (.int .i64 x.b.r) := hc 7 _ rfl
          have d8 : wr.cell? ⟨b, off + j5 * 12 + 8, none⟩ = some (.int .i64 x.b.s) := hc 8 _ rfl
          have d9 : wr.cell? ⟨b, off + j5 * 12 + 9, none⟩ = some (.bool x.b.has) := hc 9 _ rfl
          have d10 : wr.cell? ⟨b, off + j5 * 12 + 10, none⟩ = some (.int .u64 x.b.b) := hc 10 _ rfl
          have d11 : wr.cell? ⟨b, off + j5 * 12 + 11, none⟩ = some (.int .i64 x.b.f) := hc 11 _ rfl
          clear hc
          go_wp2_with fail
          refine (rvote_any x.a hok.1 _ g _ hWx5 (by unfold guiltW at *; omega)).mono ?_
          rintro e w90 ⟨rfl, hW90, hC90⟩
          have hB90 := hC90.blk hBx5 (by omega) (by decide)
          have hT90 := hTx5.trans hC90
          have hgl90 := hW90.lt
          have lb90 := ((gs.take j5).foldl Out.guilt S4).vote_len x.a
          have kx90 := (hB90.cell 10).trans (show _ = some (Value.slice (some ⟨b, off, none⟩) gs.length gc) from rfl)
          have d90_0 : w90.cell? ⟨b, off + j5 * 12, none⟩ = some (.int .i64 x.a.h) := (hC90.low.cell (by simp; omega)).trans d0
          have d90_1 : w90.cell? ⟨b, off + j5 * 12 + 1, none⟩ = some (.int .i64 x.a.r) := (hC90.low.cell (by simp; omega)).trans d1
          have d90_2 : w90.cell? ⟨b, off + j5 * 12 + 2, none⟩ = some (.int .i64 x.a.s) := (hC90.low.cell (by simp; omega)).trans d2
          have d90_3 : w90.cell? ⟨b, off + j5 * 12 + 3, none⟩ = some (.bool x.a.has) := (hC90.low.cell (by simp; omega)).trans d3
          have d90_4 : w90.cell? ⟨b, off + j5 * 12 + 4, none⟩ = some (.int .u64 x.a.b) := (hC90.low.cell (by simp; omega)).trans d4
          have d90_5 : w90.cell? ⟨b, off + j5 * 12 + 5, none⟩ = some (.int .i64 x.a.f) := (hC90.low.cell (by simp; omega)).trans d5
          have d90_6 : w90.cell? ⟨b, off + j5 * 12 + 6, none⟩ = some (.int .i64 x.b.h) := (hC90.low.cell (by simp; omega)).trans d6
          have d90_7 : w90.cell? ⟨b, off + j5 * 12 + 7, none⟩ = some (.int .i64 x.b.r) := (hC90.low.cell (by simp; omega)).trans d7
          have d90_8 : w90.cell? ⟨b, off + j5 * 12 + 8, none⟩ = some (.int .i64 x.b.s) := (hC90.low.cell (by simp; omega)).trans d8
          have d90_9 : w90.cell? ⟨b, off + j5 * 12 + 9, none⟩ = some (.bool x.b.has) := (hC90.low.cell (by simp; omega)).trans d9
          have d90_10 : w90.cell? ⟨b, off + j5 * 12 + 10, none⟩ = some (.int .u64 x.b.b) := (hC90.low.cell (by simp; omega)).trans d10
          have d90_11 : w90.cell? ⟨b, off + j5 * 12 + 11, none⟩ = some (.int .i64 x.b.f) := (hC90.low.cell (by simp; omega)).trans d11
          go_wp2_with fail
          refine (rvote_any x.b hok.2 _ g _ hW90 (by unfold guiltW at *; omega)).mono ?_
          rintro e w91 ⟨rfl, hW91, hC91⟩
          have hB91 := hC91.blk hB90 (by omega) (by decide)
          have hT91 := hT90.trans hC91
          go_wp2_with fail
          go_roundw
          case rel => exact ⟨j5 + 1, by go_num, by omega, by rw [HSl.out]; exact hW91, hB91, hT91⟩
          case measure => simp [intOf]; omega
      have hji5 : ¬ (j5 : Int) < (gs.length : Int) := by omega
      rw [List.take_of_length_le (by omega)] at hWx5
      have ll5 := fold_len Out.guilt guiltW Out.guilt_lenW gs S4
      obtain ⟨w5, rfl⟩ : ∃ x : World, x = wr := ⟨_, rfl⟩
      obtain ⟨hW5, hB5, hT5⟩ : Ref w5 g (gs.foldl Out.guilt S4) ∧ Blk w5 w.heap.size 31 #[.int .i64 h1, .int .i64 h2, .int .u64 h3, .int .u64 h4, .int .u64 h5, .int .u64 h6, .int .u64 h7, .int .u64 h8, .int .i64 h9, .slice tA ts.length tc, .slice gA gs.length gc] ∧ Turned w w5 g := ⟨hWx5, hBx5, hTx5⟩
      clear hWx5 hBx5 hTx5 hlt5
      generalize gs.foldl Out.guilt S4 = S5 at *
      have hlt5 := hB5.lt
      have hgl5 := hW5.lt
      have c5_0 := (hB5.cell 0).trans (show _ = some (.int .i64 h1) from rfl)
      have c5_1 := (hB5.cell 1).trans (show _ = some (.int .i64 h2) from rfl)
      have c5_2 := (hB5.cell 2).trans (show _ = some (.int .u64 h3) from rfl)
      have c5_3 := (hB5.cell 3).trans (show _ = some (.int .u64 h4) from rfl)
      have c5_4 := (hB5.cell 4).trans (show _ = some (.int .u64 h5) from rfl)
      have c5_5 := (hB5.cell 5).trans (show _ = some (.int .u64 h6) from rfl)
      have c5_6 := (hB5.cell 6).trans (show _ = some (.int .u64 h7) from rfl)
      have c5_7 := (hB5.cell 7).trans (show _ = some (.int .u64 h8) from rfl)
      have c5_8 := (hB5.cell 8).trans (show _ = some (.int .i64 h9) from rfl)
      have c5_9 := (hB5.cell 9).trans (show _ = some (.slice tA ts.length tc) from rfl)
      have c5_10 := (hB5.cell 10).trans (show _ = some (.slice gA gs.length gc) from rfl)
      go_wp2_with fail
      go_end0
      exact ⟨rfl, Ref.eq hW5 (by rw [hE.out] <;> rfl), hT5⟩
set_option maxRecDepth 100000 in
set_option maxHeartbeats 2000000 in
theorem rmotion_any (x : MotionD) (B : Nat) (w : World) (g : Nat) (S : Out) (h : Ref w g S) (hl : S.b.length + 40 * motionM x ≤ 58999999945000) (hx : x.held w B) (hB : B ≤ g) :
    Calls Try.prog 101 #[.pointer (some ⟨g, 0, none⟩), x.val] w fun e w' => e = .returned (.tuple #[]) ∧ Ref w' g (S.motion x) ∧ Turned w w' g := by
  have hgt := h.lt
  have hE : Hid (S.motion x = (x.basis.foldl Out.cert (((((S.num x.r).num x.f).block x.block).lim x.basis.length 1).num x.basis.length)).need (decide (1 ≤ x.f))) := rfl
  obtain ⟨x1, x2, ⟨⟨h1, h2, h3, h4, h5, h6, h7, h8, h9⟩, ts, tA, tc, gs, gA, gc⟩, bl, bA, bc⟩ := x
  simp only [motionM] at hl
  try dsimp only at hl
  obtain ⟨hxb, hxr, hs0, hxq⟩ := hx
  dsimp only at hxb hxr hs0 hxq
  have hsw1 := certs_W bl
  unfold maxLen at hs0
  have HL_bl : Hid (∀ S' : Out, (S'.lim bl.length 1).b.length = S'.b.length) := fun _ => rfl
  dsimp only [MotionD.val]
  go_enter Try.func101, Try.ntmps101
  go_wp2_with fail
  refine (rnumber_any _ _ g _ (h.alloc _) (by omega)).mono ?_
  rintro e w1 ⟨rfl, hW1, hC1⟩
  have hB1 := hC1.blk (Blk.new _ _ _) (by omega) (by decide)
  have hT1 := ((Turned.refl w g).alloc (by omega) _).trans hC1
  have hlt1 := hB1.lt
  have hgl1 := hW1.lt
  have ll1 := S.num_len x1
  generalize S.num x1 = S1 at *
  have c1_0 := (hB1.cell 0).trans (show _ = some (.int .i64 x1) from rfl)
  have c1_1 := (hB1.cell 1).trans (show _ = some (.int .i64 x2) from rfl)
  have c1_2 := (hB1.cell 2).trans (show _ = some (.int .i64 h1) from rfl)
  have c1_3 := (hB1.cell 3).trans (show _ = some (.int .i64 h2) from rfl)
  have c1_4 := (hB1.cell 4).trans (show _ = some (.int .u64 h3) from rfl)
  have c1_5 := (hB1.cell 5).trans (show _ = some (.int .u64 h4) from rfl)
  have c1_6 := (hB1.cell 6).trans (show _ = some (.int .u64 h5) from rfl)
  have c1_7 := (hB1.cell 7).trans (show _ = some (.int .u64 h6) from rfl)
  have c1_8 := (hB1.cell 8).trans (show _ = some (.int .u64 h7) from rfl)
  have c1_9 := (hB1.cell 9).trans (show _ = some (.int .u64 h8) from rfl)
  have c1_10 := (hB1.cell 10).trans (show _ = some (.int .i64 h9) from rfl)
  have c1_11 := (hB1.cell 11).trans (show _ = some (.slice tA ts.length tc) from rfl)
  have c1_12 := (hB1.cell 12).trans (show _ = some (.slice gA gs.length gc) from rfl)
  have c1_13 := (hB1.cell 13).trans (show _ = some (.slice bA bl.length bc) from rfl)
  go_wp2_with fail
  refine (rnumber_any _ _ g _ hW1 (by omega)).mono ?_
  rintro e w2 ⟨rfl, hW2, hC2⟩
  have hB2 := hC2.blk hB1 (by omega) (by decide)
  have hT2 := hT1.trans hC2
  have hlt2 := hB2.lt
  have hgl2 := hW2.lt
  have ll2 := S1.num_len x2
  generalize S1.num x2 = S2 at *
  have c2_0 := (hB2.cell 0).trans (show _ = some (.int .i64 x1) from rfl)
  have c2_1 := (hB2.cell 1).trans (show _ = some (.int .i64 x2) from rfl)
  have c2_2 := (hB2.cell 2).trans (show _ = some (.int .i64 h1) from rfl)
  have c2_3 := (hB2.cell 3).trans (show _ = some (.int .i64 h2) from rfl)
  have c2_4 := (hB2.cell 4).trans (show _ = some (.int .u64 h3) from rfl)
  have c2_5 := (hB2.cell 5).trans (show _ = some (.int .u64 h4) from rfl)
  have c2_6 := (hB2.cell 6).trans (show _ = some (.int .u64 h5) from rfl)
  have c2_7 := (hB2.cell 7).trans (show _ = some (.int .u64 h6) from rfl)
  have c2_8 := (hB2.cell 8).trans (show _ = some (.int .u64 h7) from rfl)
  have c2_9 := (hB2.cell 9).trans (show _ = some (.int .u64 h8) from rfl)
  have c2_10 := (hB2.cell 10).trans (show _ = some (.int .i64 h9) from rfl)
  have c2_11 := (hB2.cell 11).trans (show _ = some (.slice tA ts.length tc) from rfl)
  have c2_12 := (hB2.cell 12).trans (show _ = some (.slice gA gs.length gc) from rfl)
  have c2_13 := (hB2.cell 13).trans (show _ = some (.slice bA bl.length bc) from rfl)
  go_wp2_with fail
  refine (rblock_any ⟨⟨h1, h2, h3, h4, h5, h6, h7, h8, h9⟩, ts, tA, tc, gs, gA, gc⟩ B _ g _ hW2 (by omega) (hxb.below (hT2.low.mono hB)) hB).mono ?_
  rintro e w3 ⟨rfl, hW3, hC3⟩
  have hB3 := hC3.blk hB2 (by omega) (by decide)
  have hT3 := hT2.trans hC3
  have hlt3 := hB3.lt
  have hgl3 := hW3.lt
  have ll3 := S2.block_len ⟨⟨h1, h2, h3, h4, h5, h6, h7, h8, h9⟩, ts, tA, tc, gs, gA, gc⟩
  generalize S2.block ⟨⟨h1, h2, h3, h4, h5, h6, h7, h8, h9⟩, ts, tA, tc, gs, gA, gc⟩ = S3 at *
  have c3_0 := (hB3.cell 0).trans (show _ = some (.int .i64 x1) from rfl)
  have c3_1 := (hB3.cell 1).trans (show _ = some (.int .i64 x2) from rfl)
  have c3_2 := (hB3.cell 2).trans (show _ = some (.int .i64 h1) from rfl)
  have c3_3 := (hB3.cell 3).trans (show _ = some (.int .i64 h2) from rfl)
  have c3_4 := (hB3.cell 4).trans (show _ = some (.int .u64 h3) from rfl)
  have c3_5 := (hB3.cell 5).trans (show _ = some (.int .u64 h4) from rfl)
  have c3_6 := (hB3.cell 6).trans (show _ = some (.int .u64 h5) from rfl)
  have c3_7 := (hB3.cell 7).trans (show _ = some (.int .u64 h6) from rfl)
  have c3_8 := (hB3.cell 8).trans (show _ = some (.int .u64 h7) from rfl)
  have c3_9 := (hB3.cell 9).trans (show _ = some (.int .u64 h8) from rfl)
  have c3_10 := (hB3.cell 10).trans (show _ = some (.int .i64 h9) from rfl)
  have c3_11 := (hB3.cell 11).trans (show _ = some (.slice tA ts.length tc) from rfl)
  have c3_12 := (hB3.cell 12).trans (show _ = some (.slice gA gs.length gc) from rfl)
  have c3_13 := (hB3.cell 13).trans (show _ = some (.slice bA bl.length bc) from rfl)
  go_wp2_with fail
  refine (rcount_any _ _ _ g _ hW3 (by omega)).mono ?_
  rintro e w4 ⟨rfl, hW4, hC4⟩
  have hB4 := hC4.blk hB3 (by omega) (by decide)
  have hT4 := hT3.trans hC4
  have hlt4 := hB4.lt
  have hgl4 := hW4.lt
  have ll4 := (S3.lim bl.length 1).num_len bl.length
  rw [HL_bl.out] at ll4
  generalize (S3.lim bl.length 1).num bl.length = S4 at *
  have c4_0 := (hB4.cell 0).trans (show _ = some (.int .i64 x1) from rfl)
  have c4_1 := (hB4.cell 1).trans (show _ = some (.int .i64 x2) from rfl)
  have c4_2 := (hB4.cell 2).trans (show _ = some (.int .i64 h1) from rfl)
  have c4_3 := (hB4.cell 3).trans (show _ = some (.int .i64 h2) from rfl)
  have c4_4 := (hB4.cell 4).trans (show _ = some (.int .u64 h3) from rfl)
  have c4_5 := (hB4.cell 5).trans (show _ = some (.int .u64 h4) from rfl)
  have c4_6 := (hB4.cell 6).trans (show _ = some (.int .u64 h5) from rfl)
  have c4_7 := (hB4.cell 7).trans (show _ = some (.int .u64 h6) from rfl)
  have c4_8 := (hB4.cell 8).trans (show _ = some (.int .u64 h7) from rfl)
  have c4_9 := (hB4.cell 9).trans (show _ = some (.int .u64 h8) from rfl)
  have c4_10 := (hB4.cell 10).trans (show _ = some (.int .i64 h9) from rfl)
  have c4_11 := (hB4.cell 11).trans (show _ = some (.slice tA ts.length tc) from rfl)
  have c4_12 := (hB4.cell 12).trans (show _ = some (.slice gA gs.length gc) from rfl)
  have c4_13 := (hB4.cell 13).trans (show _ = some (.slice bA bl.length bc) from rfl)
  go_wp2_with fail
  go_loopw [4] (fun i wr => ∃ j : Nat, i = .int .i64 (j : Int) ∧ j ≤ bl.length ∧ Ref wr g ((bl.take j).foldl Out.cert S4) ∧ Blk wr w.heap.size 34 #[.int .i64 x1, .int .i64 x2, .int .i64 h1, .int .i64 h2, .int .u64 h3, .int .u64 h4, .int .u64 h5, .int .u64 h6, .int .u64 h7, .int .u64 h8, .int .i64 h9, .slice tA ts.length tc, .slice gA gs.length gc, .slice bA bl.length bc] ∧ Turned w wr g) (fun i _ => bl.length - (intOf i).toNat)
  case atStart => exact ⟨0, rfl, by omega, by simpa using hW4, hB4, hT4⟩
  case round =>
    obtain ⟨j5, rfl, hj5, hWx5, hBx5, hTx5⟩ := hrel
    have hgx5 := hWx5.lt
    have kx5 := (hBx5.cell 13).trans (show _ = some (Value.slice bA bl.length bc) from rfl)
    by_cases hlt5 : j5 < bl.length
    · as_aux_lemma =>
        have hji5 : (j5 : Int) < (bl.length : Int) := by omega
        obtain ⟨b, off, rfl, hbB, hc⟩ := CertsL.at_ (hTx5.rd hxr hB) hlt5
        have HSl := Lib.hid (fold_take Out.cert S4 bl j5 hlt5)
        have hle := fold_len Out.cert certW Out.cert_lenW (bl.take j5) S4
        have hle2 := sumL_take certW bl j5 hlt5
        have hx := (hxq bl[j5] (List.getElem_mem hlt5)).below (hTx5.low.mono hB)
        generalize hxx : bl[j5] = x at *
        clear hxx
        have d0 : wr.cell? ⟨b, off + j5 * 6, none⟩ = some (.int .i64 x.h) := hc 0 _ rfl
        have d1 : wr.cell? ⟨b, off + j5 * 6 + 1, none⟩ = some (.int .i64 x.r) := hc 1 _ rfl
        have d2 : wr.cell? ⟨b, off + j5 * 6 + 2, none⟩ = some (.int .i64 x.s) := hc 2 _ rfl
        have d3 : wr.cell? ⟨b, off + j5 * 6 + 3, none⟩ = some (.bool x.has) := hc 3 _ rfl
        have d4 : wr.cell? ⟨b, off + j5 * 6 + 4, none⟩ = some (.int .u64 x.b) := hc 4 _ rfl
        have d5 : wr.cell? ⟨b, off + j5 * 6 + 5, none⟩ = some (.slice x.fa x.froms.length x.fc) := hc 5 _ rfl
        clear hc
        go_wp2_with fail
        refine (rcert_any x B _ g _ hWx5 (by unfold certW at *; omega) hx hB).mono ?_
        rintro e w90 ⟨rfl, hW90, hC90⟩
        have hB90 := hC90.blk hBx5 (by omega) (by decide)
        have hT90 := hTx5.trans hC90
        go_wp2_with fail
        go_roundw
        case rel => exact ⟨j5 + 1, by go_num, by omega, by rw [HSl.out]; exact hW90, hB90, hT90⟩
        case measure => simp [intOf]; omega
    have hji5 : ¬ (j5 : Int) < (bl.length : Int) := by omega
    rw [List.take_of_length_le (by omega)] at hWx5
    have ll5 := fold_len Out.cert certW Out.cert_lenW bl S4
    obtain ⟨w5, rfl⟩ : ∃ x : World, x = wr := ⟨_, rfl⟩
    obtain ⟨hW5, hB5, hT5⟩ : Ref w5 g (bl.foldl Out.cert S4) ∧ Blk w5 w.heap.size 34 #[.int .i64 x1, .int .i64 x2, .int .i64 h1, .int .i64 h2, .int .u64 h3, .int .u64 h4, .int .u64 h5, .int .u64 h6, .int .u64 h7, .int .u64 h8, .int .i64 h9, .slice tA ts.length tc, .slice gA gs.length gc, .slice bA bl.length bc] ∧ Turned w w5 g := ⟨hWx5, hBx5, hTx5⟩
    clear hWx5 hBx5 hTx5 hlt5
    generalize bl.foldl Out.cert S4 = S5 at *
    have hlt5 := hB5.lt
    have hgl5 := hW5.lt
    have c5_0 := (hB5.cell 0).trans (show _ = some (.int .i64 x1) from rfl)
    have c5_1 := (hB5.cell 1).trans (show _ = some (.int .i64 x2) from rfl)
    have c5_2 := (hB5.cell 2).trans (show _ = some (.int .i64 h1) from rfl)
    have c5_3 := (hB5.cell 3).trans (show _ = some (.int .i64 h2) from rfl)
    have c5_4 := (hB5.cell 4).trans (show _ = some (.int .u64 h3) from rfl)
    have c5_5 := (hB5.cell 5).trans (show _ = some (.int .u64 h4) from rfl)
    have c5_6 := (hB5.cell 6).trans (show _ = some (.int .u64 h5) from rfl)
    have c5_7 := (hB5.cell 7).trans (show _ = some (.int .u64 h6) from rfl)
    have c5_8 := (hB5.cell 8).trans (show _ = some (.int .u64 h7) from rfl)
    have c5_9 := (hB5.cell 9).trans (show _ = some (.int .u64 h8) from rfl)
    have c5_10 := (hB5.cell 10).trans (show _ = some (.int .i64 h9) from rfl)
    have c5_11 := (hB5.cell 11).trans (show _ = some (.slice tA ts.length tc) from rfl)
    have c5_12 := (hB5.cell 12).trans (show _ = some (.slice gA gs.length gc) from rfl)
    have c5_13 := (hB5.cell 13).trans (show _ = some (.slice bA bl.length bc) from rfl)
    go_wp2_with fail
    all_goals
      refine (rneed_any _ _ g _ hW5).mono ?_
      rintro e w6 ⟨rfl, hW6, hC6⟩
      have hB6 := hC6.blk hB5 (by omega) (by decide)
      have hT6 := hT5.trans hC6
      have hlt6 := hB6.lt
      have hgl6 := hW6.lt
      go_wp2_with fail
      go_end0
      exact ⟨rfl, Ref.eq hW6 (by rw [hE.out] <;> (first | rfl | (congr 1; grind))), hT6⟩
set_option maxRecDepth 100000 in
set_option maxHeartbeats 1000000 in
theorem rknown_any (x : KnownD) (B : Nat) (w : World) (g : Nat) (S : Out) (h : Ref w g S) (hl : S.b.length + 40 * knownM x ≤ 58999999945000) (hx : x.held w B) (hB : B ≤ g) :
    Calls Try.prog 102 #[.pointer (some ⟨g, 0, none⟩), x.val] w fun e w' => e = .returned (.tuple #[]) ∧ Ref w' g (S.known x) ∧ Turned w w' g := by
  have hgt := h.lt
  have hE : Hid (S.known x = (S.cert x.cert).block x.block) := rfl
  obtain ⟨⟨c1, c2, c3, c4, c5, c6, c6a, c6c⟩, ⟨⟨h1, h2, h3, h4, h5, h6, h7, h8, h9⟩, ts, tA, tc, gs, gA, gc⟩⟩ := x
  simp only [knownM] at hl
  try dsimp only at hl
  obtain ⟨hxc, hxb⟩ := hx
  dsimp only at hxc hxb
  dsimp only [KnownD.val]
  go_enter Try.func102, Try.ntmps102
  go_wp2_with fail
  refine (rcert_any ⟨c1, c2, c3, c4, c5, c6, c6a, c6c⟩ B _ g _ (h.alloc _) (by omega) (hxc.below (((Turned.refl w g).alloc (by omega) _).low.mono hB)) hB).mono ?_
  rintro e w1 ⟨rfl, hW1, hC1⟩
  have hB1 := hC1.blk (Blk.new _ _ _) (by omega) (by decide)
  have hT1 := ((Turned.refl w g).alloc (by omega) _).trans hC1
  have hlt1 := hB1.lt
  have hgl1 := hW1.lt
  have ll1 := S.cert_len ⟨c1, c2, c3, c4, c5, c6, c6a, c6c⟩
  generalize S.cert ⟨c1, c2, c3, c4, c5, c6, c6a, c6c⟩ = S1 at *
  have c1_0 := (hB1.cell 0).trans (show _ = some (.int .i64 c1) from rfl)
  have c1_1 := (hB1.cell 1).trans (show _ = some (.int .i64 c2) from rfl)
  have c1_2 := (hB1.cell 2).trans (show _ = some (.int .i64 c3) from rfl)
  have c1_3 := (hB1.cell 3).trans (show _ = some (.bool c4) from rfl)
  have c1_4 := (hB1.cell 4).trans (show _ = some (.int .u64 c5) from rfl)
  have c1_5 := (hB1.cell 5).trans (show _ = some (.slice c6a c6.length c6c) from rfl)
  have c1_6 := (hB1.cell 6).trans (show _ = some (.int .i64 h1) from rfl)
  have c1_7 := (hB1.cell 7).trans (show _ = some (.int .i64 h2) from rfl)
  have c1_8 := (hB1.cell 8).trans (show _ = some (.int .u64 h3) from rfl)
  have c1_9 := (hB1.cell 9).trans (show _ = some (.int .u64 h4) from rfl)
  have c1_10 := (hB1.cell 10).trans (show _ = some (.int .u64 h5) from rfl)
  have c1_11 := (hB1.cell 11).trans (show _ = some (.int .u64 h6) from rfl)
  have c1_12 := (hB1.cell 12).trans (show _ = some (.int .u64 h7) from rfl)
  have c1_13 := (hB1.cell 13).trans (show _ = some (.int .u64 h8) from rfl)
  have c1_14 := (hB1.cell 14).trans (show _ = some (.int .i64 h9) from rfl)
  have c1_15 := (hB1.cell 15).trans (show _ = some (.slice tA ts.length tc) from rfl)
  have c1_16 := (hB1.cell 16).trans (show _ = some (.slice gA gs.length gc) from rfl)
  go_wp2_with fail
  refine (rblock_any ⟨⟨h1, h2, h3, h4, h5, h6, h7, h8, h9⟩, ts, tA, tc, gs, gA, gc⟩ B _ g _ hW1 (by omega) (hxb.below (hT1.low.mono hB)) hB).mono ?_
  rintro e w2 ⟨rfl, hW2, hC2⟩
  have hB2 := hC2.blk hB1 (by omega) (by decide)
  have hT2 := hT1.trans hC2
  have hlt2 := hB2.lt
  have hgl2 := hW2.lt
  generalize S1.block ⟨⟨h1, h2, h3, h4, h5, h6, h7, h8, h9⟩, ts, tA, tc, gs, gA, gc⟩ = S2 at *
  go_wp2_with fail
  go_end0
  exact ⟨rfl, Ref.eq hW2 (by rw [hE.out] <;> rfl), hT2⟩
end Go.Proofs.Ytjjkdmngmopjbaa
