/- The program's writer: messages. -/
import Derived.Test.YtjmkcndjjfokiaaProg
import Derived.Test.YtjmkcndjjfokiaaWrB
namespace Go.Proofs.Ytjmkcndjjfokiaa
open Go.RowKit
set_option maxRecDepth 100000 in
set_option maxHeartbeats 1000000 in
theorem putsMotion_any (l : List MotionD) (A : Option Addr) (c B : Nat) (m : Int) (w : World) (g : Nat) (S : Out) (h : Wrt w g S) (hr : MotionsL w B A l) (hB : B ≤ g) (hd : ∀ x ∈ l, x.held w B) (hl : S.b.length + 6 + sumL motionW l ≤ 58999999940000) (hm : l.length ≤ maxLen) :
    Calls Try.prog 183 #[.pointer (some ⟨g, 0, none⟩), .slice A l.length c, .int .i64 m, .func (.func 184) #[] #[]] w fun e w' => e = .returned (.tuple #[]) ∧ Wrt w' g (S.list l m Out.motion) ∧ Turned w w' g := by
  unfold maxLen at hm
  have hgt := h.lt
  have hn := ((S.lim l.length m).num_len l.length)
  have hb0 : (S.lim l.length m).b.length = S.b.length := rfl
  have hE : Hid (S.list l m Out.motion = l.foldl Out.motion ((S.lim l.length m).num l.length)) := rfl
  go_enter Try.func183, Try.ntmps183
  go_wp2_with fail
  refine (limited_any _ _ _ g _ h).mono ?_
  rintro e w1 ⟨rfl, hW1, hT1⟩
  go_wp2_with fail
  refine (number_any _ _ g _ hW1 (by omega)).mono ?_
  rintro e w2 ⟨rfl, hW2, hT2⟩
  have hT02 := hT1.trans hT2
  clear hT1 hT2 hW1
  generalize (S.lim l.length m).num l.length = S2 at *
  go_wp2_with fail
  go_loopw [9, 21] (fun _ i wr => ∃ j : Nat, i = .int .i64 (j : Int) ∧ j ≤ l.length ∧ Wrt wr g ((l.take j).foldl Out.motion S2) ∧ Turned w wr g) (fun _ i _ => l.length - (intOf i).toNat)
  case atStart => exact ⟨0, rfl, by omega, by simpa using hW2, hT02⟩
  case round =>
   as_aux_lemma =>
    obtain ⟨j, rfl, hj, hW, hT⟩ := hrel
    have hgw := hW.lt
    by_cases hlt : j < l.length
    · as_aux_lemma =>
      have hji : (j : Int) < (l.length : Int) := by omega
      obtain ⟨b, off, rfl, hbB, hc⟩ := MotionsL.at_ (hT.rd hr hB) hlt
      have HS := Lib.hid (fold_take Out.motion S2 l j hlt)
      have hle := fold_len Out.motion motionW Out.motion_lenW (l.take j) S2
      have hle2 := sumL_take motionW l j hlt
      have hx := (hd l[j] (List.getElem_mem hlt)).below (hT.low.mono hB)
      generalize hxx : l[j] = x at *
      clear hxx
      have c0 : wr.cell? ⟨b, off + j * 14, none⟩ = some (.int .i64 x.r) := hc 0 _ rfl
      have c1 : wr.cell? ⟨b, off + j * 14 + 1, none⟩ = some (.int .i64 x.f) := hc 1 _ rfl
      have c2 : wr.cell? ⟨b, off + j * 14 + 2, none⟩ = some (.int .i64 x.block.header.c) := hc 2 _ rfl
      have c3 : wr.cell? ⟨b, off + j * 14 + 3, none⟩ = some (.int .i64 x.block.header.h) := hc 3 _ rfl
      have c4 : wr.cell? ⟨b, off + j * 14 + 4, none⟩ = some (.int .u64 x.block.header.p) := hc 4 _ rfl
      have c5 : wr.cell? ⟨b, off + j * 14 + 5, none⟩ = some (.int .u64 x.block.header.t) := hc 5 _ rfl
      have c6 : wr.cell? ⟨b, off + j * 14 + 6, none⟩ = some (.int .u64 x.block.header.g) := hc 6 _ rfl
      have c7 : wr.cell? ⟨b, off + j * 14 + 7, none⟩ = some (.int .u64 x.block.header.s) := hc 7 _ rfl
      have c8 : wr.cell? ⟨b, off + j * 14 + 8, none⟩ = some (.int .u64 x.block.header.r) := hc 8 _ rfl
      have c9 : wr.cell? ⟨b, off + j * 14 + 9, none⟩ = some (.int .u64 x.block.header.b) := hc 9 _ rfl
      have c10 : wr.cell? ⟨b, off + j * 14 + 10, none⟩ = some (.int .i64 x.block.header.o) := hc 10 _ rfl
      have c11 : wr.cell? ⟨b, off + j * 14 + 11, none⟩ = some (.slice x.block.ta x.block.txs.length x.block.tc) := hc 11 _ rfl
      have c12 : wr.cell? ⟨b, off + j * 14 + 12, none⟩ = some (.slice x.block.ga x.block.guilts.length x.block.gc) := hc 12 _ rfl
      have c13 : wr.cell? ⟨b, off + j * 14 + 13, none⟩ = some (.slice x.ba x.basis.length x.bc) := hc 13 _ rfl
      clear hc
      go_wp2_with fail
      refine (wmotion_any x B _ g _ (hW.alloc _) (by unfold motionW at *; omega) (hx.below ((Below.refl B wr).alloc (by omega) _)) hB).mono ?_
      rintro e w3 ⟨rfl, hW3, hT3⟩
      go_wp2_with fail
      go_roundw
      case rel => exact ⟨j + 1, by go_num, by omega, by rw [HS.out]; exact hW3, (hT.alloc (Nat.le_of_lt hgw) _).trans hT3⟩
      case measure => simp [intOf]; omega
    · have hji : ¬ (j : Int) < (l.length : Int) := by omega
      go_wp2
      go_end0
      rw [List.take_of_length_le (by omega)] at hW
      exact ⟨rfl, by rw [hE.out]; exact hW, hT⟩
set_option maxRecDepth 100000 in
set_option maxHeartbeats 1000000 in
theorem putsKnown_any (l : List KnownD) (A : Option Addr) (c B : Nat) (m : Int) (w : World) (g : Nat) (S : Out) (h : Wrt w g S) (hr : KnownsL w B A l) (hB : B ≤ g) (hd : ∀ x ∈ l, x.held w B) (hl : S.b.length + 6 + sumL knownW l ≤ 58999999940000) (hm : l.length ≤ maxLen) :
    Calls Try.prog 185 #[.pointer (some ⟨g, 0, none⟩), .slice A l.length c, .int .i64 m, .func (.func 186) #[] #[]] w fun e w' => e = .returned (.tuple #[]) ∧ Wrt w' g (S.list l m Out.known) ∧ Turned w w' g := by
  unfold maxLen at hm
  have hgt := h.lt
  have hn := ((S.lim l.length m).num_len l.length)
  have hb0 : (S.lim l.length m).b.length = S.b.length := rfl
  have hE : Hid (S.list l m Out.known = l.foldl Out.known ((S.lim l.length m).num l.length)) := rfl
  go_enter Try.func185, Try.ntmps185
  go_wp2_with fail
  refine (limited_any _ _ _ g _ h).mono ?_
  rintro e w1 ⟨rfl, hW1, hT1⟩
  go_wp2_with fail
  refine (number_any _ _ g _ hW1 (by omega)).mono ?_
  rintro e w2 ⟨rfl, hW2, hT2⟩
  have hT02 := hT1.trans hT2
  clear hT1 hT2 hW1
  generalize (S.lim l.length m).num l.length = S2 at *
  go_wp2_with fail
  go_loopw [9, 21] (fun _ i wr => ∃ j : Nat, i = .int .i64 (j : Int) ∧ j ≤ l.length ∧ Wrt wr g ((l.take j).foldl Out.known S2) ∧ Turned w wr g) (fun _ i _ => l.length - (intOf i).toNat)
  case atStart => exact ⟨0, rfl, by omega, by simpa using hW2, hT02⟩
  case round =>
   as_aux_lemma =>
    obtain ⟨j, rfl, hj, hW, hT⟩ := hrel
    have hgw := hW.lt
    by_cases hlt : j < l.length
    · as_aux_lemma =>
      have hji : (j : Int) < (l.length : Int) := by omega
      obtain ⟨b, off, rfl, hbB, hc⟩ := KnownsL.at_ (hT.rd hr hB) hlt
      have HS := Lib.hid (fold_take Out.known S2 l j hlt)
      have hle := fold_len Out.known knownW Out.known_lenW (l.take j) S2
      have hle2 := sumL_take knownW l j hlt
      have hx := (hd l[j] (List.getElem_mem hlt)).below (hT.low.mono hB)
      generalize hxx : l[j] = x at *
      clear hxx
      have c0 : wr.cell? ⟨b, off + j * 17, none⟩ = some (.int .i64 x.cert.h) := hc 0 _ rfl
      have c1 : wr.cell? ⟨b, off + j * 17 + 1, none⟩ = some (.int .i64 x.cert.r) := hc 1 _ rfl
      have c2 : wr.cell? ⟨b, off + j * 17 + 2, none⟩ = some (.int .i64 x.cert.s) := hc 2 _ rfl
      have c3 : wr.cell? ⟨b, off + j * 17 + 3, none⟩ = some (.bool x.cert.has) := hc 3 _ rfl
      have c4 : wr.cell? ⟨b, off + j * 17 + 4, none⟩ = some (.int .u64 x.cert.b) := hc 4 _ rfl
      have c5 : wr.cell? ⟨b, off + j * 17 + 5, none⟩ = some (.slice x.cert.fa x.cert.froms.length x.cert.fc) := hc 5 _ rfl
      have c6 : wr.cell? ⟨b, off + j * 17 + 6, none⟩ = some (.int .i64 x.block.header.c) := hc 6 _ rfl
      have c7 : wr.cell? ⟨b, off + j * 17 + 7, none⟩ = some (.int .i64 x.block.header.h) := hc 7 _ rfl
      have c8 : wr.cell? ⟨b, off + j * 17 + 8, none⟩ = some (.int .u64 x.block.header.p) := hc 8 _ rfl
      have c9 : wr.cell? ⟨b, off + j * 17 + 9, none⟩ = some (.int .u64 x.block.header.t) := hc 9 _ rfl
      have c10 : wr.cell? ⟨b, off + j * 17 + 10, none⟩ = some (.int .u64 x.block.header.g) := hc 10 _ rfl
      have c11 : wr.cell? ⟨b, off + j * 17 + 11, none⟩ = some (.int .u64 x.block.header.s) := hc 11 _ rfl
      have c12 : wr.cell? ⟨b, off + j * 17 + 12, none⟩ = some (.int .u64 x.block.header.r) := hc 12 _ rfl
      have c13 : wr.cell? ⟨b, off + j * 17 + 13, none⟩ = some (.int .u64 x.block.header.b) := hc 13 _ rfl
      have c14 : wr.cell? ⟨b, off + j * 17 + 14, none⟩ = some (.int .i64 x.block.header.o) := hc 14 _ rfl
      have c15 : wr.cell? ⟨b, off + j * 17 + 15, none⟩ = some (.slice x.block.ta x.block.txs.length x.block.tc) := hc 15 _ rfl
      have c16 : wr.cell? ⟨b, off + j * 17 + 16, none⟩ = some (.slice x.block.ga x.block.guilts.length x.block.gc) := hc 16 _ rfl
      clear hc
      go_upto_region 5 with fail
      as_aux_lemma =>
      go_wp2_with fail
      as_aux_lemma =>
      refine (wknown_any x B _ g _ (hW.alloc _) (by unfold knownW at *; omega) (hx.below ((Below.refl B wr).alloc (by omega) _)) hB).mono ?_
      rintro e w3 ⟨rfl, hW3, hT3⟩
      go_wp2_with fail
      go_roundw
      case rel => exact ⟨j + 1, by go_num, by omega, by rw [HS.out]; exact hW3, (hT.alloc (Nat.le_of_lt hgw) _).trans hT3⟩
      case measure => simp [intOf]; omega
    · have hji : ¬ (j : Int) < (l.length : Int) := by omega
      go_wp2
      go_end0
      rw [List.take_of_length_le (by omega)] at hW
      exact ⟨rfl, by rw [hE.out]; exact hW, hT⟩
set_option maxRecDepth 100000 in
set_option maxHeartbeats 1000000 in
theorem wmessage_any (x : MessageD) (B : Nat) (w : World) (g : Nat) (S : Out) (h : Wrt w g S) (hl : S.b.length + 40 * messageM x ≤ 58999999930000) (hx : x.held w B) (hB : B ≤ g) :
    Calls Try.prog 116 #[.pointer (some ⟨g, 0, none⟩), x.val] w fun e w' => e = .returned (.tuple #[]) ∧ Wrt w' g (S.message x) ∧ Turned w w' g := by
  have hgt := h.lt
  have hE : Hid (S.message x = (((((S.nums [x.f, x.t, x.h]).list x.votes 512 Out.vote).list x.motions 2 Out.motion).list x.knowns 2 Out.known).list x.txs 16 Out.tx).need (decide (1 ≤ x.f))) := rfl
  obtain ⟨x1, x2, x3, vl, vA, vc, ml, mA, mc, kl, kA, kc, ts, tA, tc⟩ := x
  simp only [messageM] at hl
  try dsimp only at hl
  obtain ⟨hxv, hxm, hxk, hxt, ⟨hs0, hs1, hs2, hs3⟩, hxv2, hxm2, hxk2, hxt2⟩ := hx
  dsimp only at hxv hxm hxk hxt hs0 hs1 hs2 hs3 hxv2 hxm2 hxk2 hxt2
  have hsw1 : sumL voteW vl = 33 * vl.length := sumL_const 33 vl
  have hsw2 : sumL voteM vl = 7 * vl.length := sumL_const 7 vl
  have hsw3 := motions_W ml
  have hsw4 := knowns_W kl
  have hsw5 := txs_W ts
  dsimp only [MessageD.val]
  go_enter Try.func116, Try.ntmps116
  go_wp2_with fail
  have ll1 := S.nums_len [x1, x2, x3]
  simp only [List.length_cons, List.length_nil] at ll1
  refine (numbers_any [x1, x2, x3] 3 _ g (w.heap.size + 1) S ((h.alloc _).alloc _) (by have hN := Blk.new (w.alloc (.cells #[.int .i64 x1, .int .i64 x2, .int .i64 x3, .slice vA vl.length vc, .slice mA ml.length mc, .slice kA kl.length kc, .slice tA ts.length tc] 95)) 3 #[.int .i64 x1, .int .i64 x2, .int .i64 x3]; simpa using hN) (by omega) (by simp; omega)).mono ?_
  rintro e w1 ⟨rfl, hW1, hC1⟩
  have hB1 := hC1.blk ((Blk.new _ _ _).alloc _) (by omega) (by decide)
  have hT1 := (((Turned.refl w g).alloc (by omega) _).alloc (by simp; omega) _).trans hC1
  have hlt1 := hB1.lt
  have hgl1 := hW1.lt
  generalize S.nums [x1, x2, x3] = S1 at *
  have c1_0 := (hB1.cell 0).trans (show _ = some (.int .i64 x1) from rfl)
  have c1_1 := (hB1.cell 1).trans (show _ = some (.int .i64 x2) from rfl)
  have c1_2 := (hB1.cell 2).trans (show _ = some (.int .i64 x3) from rfl)
  have c1_3 := (hB1.cell 3).trans (show _ = some (.slice vA vl.length vc) from rfl)
  have c1_4 := (hB1.cell 4).trans (show _ = some (.slice mA ml.length mc) from rfl)
  have c1_5 := (hB1.cell 5).trans (show _ = some (.slice kA kl.length kc) from rfl)
  have c1_6 := (hB1.cell 6).trans (show _ = some (.slice tA ts.length tc) from rfl)
  go_wp2_with fail
  refine (putsVote_any vl vA vc B 512 _ g _ hW1 (hT1.rd hxv hB) hB hxv2 (by omega) hs0).mono ?_
  rintro e w2 ⟨rfl, hW2, hC2⟩
  have hB2 := hC2.blk hB1 (by omega) (by decide)
  have hT2 := hT1.trans hC2
  have hlt2 := hB2.lt
  have hgl2 := hW2.lt
  have ll2 := list_len Out.vote voteW Out.vote_lenW vl 512 S1
  generalize S1.list vl 512 Out.vote = S2 at *
  have c2_0 := (hB2.cell 0).trans (show _ = some (.int .i64 x1) from rfl)
  have c2_1 := (hB2.cell 1).trans (show _ = some (.int .i64 x2) from rfl)
  have c2_2 := (hB2.cell 2).trans (show _ = some (.int .i64 x3) from rfl)
  have c2_3 := (hB2.cell 3).trans (show _ = some (.slice vA vl.length vc) from rfl)
  have c2_4 := (hB2.cell 4).trans (show _ = some (.slice mA ml.length mc) from rfl)
  have c2_5 := (hB2.cell 5).trans (show _ = some (.slice kA kl.length kc) from rfl)
  have c2_6 := (hB2.cell 6).trans (show _ = some (.slice tA ts.length tc) from rfl)
  go_wp2_with fail
  refine (putsMotion_any ml mA mc B 2 _ g _ hW2 (hT2.rd hxm hB) hB (fun y hy => (hxm2 y hy).below (hT2.low.mono hB)) (by omega) hs1).mono ?_
  rintro e w3 ⟨rfl, hW3, hC3⟩
  have hB3 := hC3.blk hB2 (by omega) (by decide)
  have hT3 := hT2.trans hC3
  have hlt3 := hB3.lt
  have hgl3 := hW3.lt
  have ll3 := list_len Out.motion motionW Out.motion_lenW ml 2 S2
  generalize S2.list ml 2 Out.motion = S3 at *
  have c3_0 := (hB3.cell 0).trans (show _ = some (.int .i64 x1) from rfl)
  have c3_1 := (hB3.cell 1).trans (show _ = some (.int .i64 x2) from rfl)
  have c3_2 := (hB3.cell 2).trans (show _ = some (.int .i64 x3) from rfl)
  have c3_3 := (hB3.cell 3).trans (show _ = some (.slice vA vl.length vc) from rfl)
  have c3_4 := (hB3.cell 4).trans (show _ = some (.slice mA ml.length mc) from rfl)
  have c3_5 := (hB3.cell 5).trans (show _ = some (.slice kA kl.length kc) from rfl)
  have c3_6 := (hB3.cell 6).trans (show _ = some (.slice tA ts.length tc) from rfl)
  go_wp2_with fail
  refine (putsKnown_any kl kA kc B 2 _ g _ hW3 (hT3.rd hxk hB) hB (fun y hy => (hxk2 y hy).below (hT3.low.mono hB)) (by omega) hs2).mono ?_
  rintro e w4 ⟨rfl, hW4, hC4⟩
  have hB4 := hC4.blk hB3 (by omega) (by decide)
  have hT4 := hT3.trans hC4
  have hlt4 := hB4.lt
  have hgl4 := hW4.lt
  have ll4 := list_len Out.known knownW Out.known_lenW kl 2 S3
  generalize S3.list kl 2 Out.known = S4 at *
  have c4_0 := (hB4.cell 0).trans (show _ = some (.int .i64 x1) from rfl)
  have c4_1 := (hB4.cell 1).trans (show _ = some (.int .i64 x2) from rfl)
  have c4_2 := (hB4.cell 2).trans (show _ = some (.int .i64 x3) from rfl)
  have c4_3 := (hB4.cell 3).trans (show _ = some (.slice vA vl.length vc) from rfl)
  have c4_4 := (hB4.cell 4).trans (show _ = some (.slice mA ml.length mc) from rfl)
  have c4_5 := (hB4.cell 5).trans (show _ = some (.slice kA kl.length kc) from rfl)
  have c4_6 := (hB4.cell 6).trans (show _ = some (.slice tA ts.length tc) from rfl)
  go_wp2_with fail
  refine (putsTx_any ts tA tc B 16 _ g _ hW4 (hT4.rd hxt hB) hB (fun y hy => (hxt2 y hy).below (hT4.low.mono hB)) (by omega) hs3).mono ?_
  rintro e w5 ⟨rfl, hW5, hC5⟩
  have hB5 := hC5.blk hB4 (by omega) (by decide)
  have hT5 := hT4.trans hC5
  have hlt5 := hB5.lt
  have hgl5 := hW5.lt
  have ll5 := list_len Out.tx txW Out.tx_lenW ts 16 S4
  generalize S4.list ts 16 Out.tx = S5 at *
  have c5_0 := (hB5.cell 0).trans (show _ = some (.int .i64 x1) from rfl)
  have c5_1 := (hB5.cell 1).trans (show _ = some (.int .i64 x2) from rfl)
  have c5_2 := (hB5.cell 2).trans (show _ = some (.int .i64 x3) from rfl)
  have c5_3 := (hB5.cell 3).trans (show _ = some (.slice vA vl.length vc) from rfl)
  have c5_4 := (hB5.cell 4).trans (show _ = some (.slice mA ml.length mc) from rfl)
  have c5_5 := (hB5.cell 5).trans (show _ = some (.slice kA kl.length kc) from rfl)
  have c5_6 := (hB5.cell 6).trans (show _ = some (.slice tA ts.length tc) from rfl)
  go_wp2_with fail
  all_goals
    refine (need_any _ _ g _ hW5).mono ?_
    rintro e w6 ⟨rfl, hW6, hC6⟩
    have hB6 := hC6.blk hB5 (by omega) (by decide)
    have hT6 := hT5.trans hC6
    have hlt6 := hB6.lt
    have hgl6 := hW6.lt
    go_wp2_with fail
    go_end0
    exact ⟨rfl, Wrt.eq hW6 (by rw [hE.out] <;> rfl), hT6⟩
end Go.Proofs.Ytjmkcndjjfokiaa
