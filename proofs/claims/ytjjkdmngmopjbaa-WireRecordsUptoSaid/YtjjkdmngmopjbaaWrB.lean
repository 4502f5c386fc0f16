/- The program's writer: blocks, motions, knowns. -/
import Derived.Test.YtjjkdmngmopjbaaProg
import Derived.Test.YtjjkdmngmopjbaaWr15t
import Derived.Test.YtjjkdmngmopjbaaWrV
namespace Go.Proofs.Ytjjkdmngmopjbaa
open Go.RowKit
set_option maxRecDepth 100000 in
set_option maxHeartbeats 1000000 in
theorem putsTx_any (l : List TxD) (A : Option Addr) (c B : Nat) (m : Int) (w : World) (g : Nat) (S : Out) (h : Wrt w g S) (hr : TxsL w B A l) (hB : B ≤ g) (hd : ∀ x ∈ l, x.held w B) (hl : S.b.length + 6 + sumL txW l ≤ 58999999960000) (hm : l.length ≤ maxLen) :
    Calls Try.prog 165 #[.pointer (some ⟨g, 0, none⟩), .slice A l.length c, .int .i64 m, .func (.func 166) #[] #[]] w fun e w' => e = .returned (.tuple #[]) ∧ Wrt w' g (S.list l m Out.tx) ∧ Turned w w' g := by
  unfold maxLen at hm
  have hgt := h.lt
  have hn := ((S.lim l.length m).num_len l.length)
  have hb0 : (S.lim l.length m).b.length = S.b.length := rfl
  have hE : Hid (S.list l m Out.tx = l.foldl Out.tx ((S.lim l.length m).num l.length)) := rfl
  go_enter Try.func165, Try.ntmps165
  go_wp2_with fail
  refine (limited_any _ _ _ g _ h).mono ?_
  rintro e w1 ⟨rfl, hW1, hT1⟩
  go_wp2_with fail
  refine (number_any _ _ g _ hW1 (by omega)).mono ?_
  rintro e w2 ⟨rfl, hW2, hT2⟩
  have hT02 := hT1.trans hT2
  clear hT1 hT2 hW1
  generalize (S.lim l.length m).num l.length = S2 at *
  go_wp2_with fail
  go_loopw [9, 21] (fun _ i wr => ∃ j : Nat, i = .int .i64 (j : Int) ∧ j ≤ l.length ∧ Wrt wr g ((l.take j).foldl Out.tx S2) ∧ Turned w wr g) (fun _ i _ => l.length - (intOf i).toNat)
  case atStart => exact ⟨0, rfl, by omega, by simpa using hW2, hT02⟩
  case round =>
   as_aux_lemma =>
    obtain ⟨j, rfl, hj, hW, hT⟩ := hrel
    have hgw := hW.lt
    by_cases hlt : j < l.length
    · as_aux_lemma =>
      have hji : (j : Int) < (l.length : Int) := by omega
      obtain ⟨b, off, rfl, hbB, hc⟩ := TxsL.at_ (hT.rd hr hB) hlt
      have HS := Lib.hid (fold_take Out.tx S2 l j hlt)
      have hle := fold_len Out.tx txW Out.tx_lenW (l.take j) S2
      have hle2 := sumL_take txW l j hlt
      have hx := (hd l[j] (List.getElem_mem hlt)).below (hT.low.mono hB)
      generalize hxx : l[j] = x at *
      clear hxx
      have c0 : wr.cell? ⟨b, off + j * 11, none⟩ = some (.int .i64 x.k) := hc 0 _ rfl
      have c1 : wr.cell? ⟨b, off + j * 11 + 1, none⟩ = some (.int .i64 x.f) := hc 1 _ rfl
      have c2 : wr.cell? ⟨b, off + j * 11 + 2, none⟩ = some (.int .i64 x.n) := hc 2 _ rfl
      have c3 : wr.cell? ⟨b, off + j * 11 + 3, none⟩ = some (.int .i64 x.p) := hc 3 _ rfl
      have c4 : wr.cell? ⟨b, off + j * 11 + 4, none⟩ = some (.int .i64 x.l) := hc 4 _ rfl
      have c5 : wr.cell? ⟨b, off + j * 11 + 5, none⟩ = some (.int .i64 x.t) := hc 5 _ rfl
      have c6 : wr.cell? ⟨b, off + j * 11 + 6, none⟩ = some (.int .i64 x.a) := hc 6 _ rfl
      have c7 : wr.cell? ⟨b, off + j * 11 + 7, none⟩ = some (.string (bs x.text)) := hc 7 _ rfl
      have c8 : wr.cell? ⟨b, off + j * 11 + 8, none⟩ = some (.slice x.aa x.args.length x.ac) := hc 8 _ rfl
      have c9 : wr.cell? ⟨b, off + j * 11 + 9, none⟩ = some (.slice x.sa x.sights.length x.sc) := hc 9 _ rfl
      have c10 : wr.cell? ⟨b, off + j * 11 + 10, none⟩ = some (.slice x.pa x.proofs.length x.pc) := hc 10 _ rfl
      clear hc
      go_wp2_with fail
      refine (wtx_any x B _ g _ (hW.alloc _) (by unfold txW at *; omega) (hx.below ((Below.refl B wr).alloc (by omega) _)) hB).mono ?_
      rintro e w3 ⟨rfl, hW3, hT3⟩
      go_wp2_with fail
      go_roundw
      case rel => exact ⟨j + 1, by go_num, by omega, by rw [HS.out]; exact hW3, (hT.alloc (Nat.le_of_lt hgw) _).trans hT3⟩
      case measure => simp [intOf]; omega
    · have hji : ¬ (j : Int) < (l.length : Int) := by omega
      go_wp2
      go_end0
      rw [List.take_of_length_le (by omega)] at hW
      exact ⟨rfl, by rw [hE.out]; exact hW, hT⟩
set_option maxRecDepth 100000 in
set_option maxHeartbeats 1000000 in
theorem putsGuilt_any (l : List GuiltD) (A : Option Addr) (c B : Nat) (m : Int) (w : World) (g : Nat) (S : Out) (h : Wrt w g S) (hr : GuiltsL w B A l) (hB : B ≤ g) (hd : ∀ x ∈ l, x.ok) (hl : S.b.length + 6 + sumL guiltW l ≤ 58999999960000) (hm : l.length ≤ maxLen) :
    Calls Try.prog 167 #[.pointer (some ⟨g, 0, none⟩), .slice A l.length c, .int .i64 m, .func (.func 168) #[] #[]] w fun e w' => e = .returned (.tuple #[]) ∧ Wrt w' g (S.list l m Out.guilt) ∧ Turned w w' g := by
  unfold maxLen at hm
  have hgt := h.lt
  have hn := ((S.lim l.length m).num_len l.length)
  have hb0 : (S.lim l.length m).b.length = S.b.length := rfl
  have hE : Hid (S.list l m Out.guilt = l.foldl Out.guilt ((S.lim l.length m).num l.length)) := rfl
  go_enter Try.func167, Try.ntmps167
  go_wp2_with fail
  refine (limited_any _ _ _ g _ h).mono ?_
  rintro e w1 ⟨rfl, hW1, hT1⟩
  go_wp2_with fail
  refine (number_any _ _ g _ hW1 (by omega)).mono ?_
  rintro e w2 ⟨rfl, hW2, hT2⟩
  have hT02 := hT1.trans hT2
  clear hT1 hT2 hW1
  generalize (S.lim l.length m).num l.length = S2 at *
  go_wp2_with fail
  go_loopw [9, 21] (fun _ i wr => ∃ j : Nat, i = .int .i64 (j : Int) ∧ j ≤ l.length ∧ Wrt wr g ((l.take j).foldl Out.guilt S2) ∧ Turned w wr g) (fun _ i _ => l.length - (intOf i).toNat)
  case atStart => exact ⟨0, rfl, by omega, by simpa using hW2, hT02⟩
  case round =>
   as_aux_lemma =>
    obtain ⟨j, rfl, hj, hW, hT⟩ := hrel
    have hgw := hW.lt
    by_cases hlt : j < l.length
    · as_aux_lemma =>
      have hji : (j : Int) < (l.length : Int) := by omega
      obtain ⟨b, off, rfl, hbB, hc⟩ := GuiltsL.at_ (hT.rd hr hB) hlt
      have HS := Lib.hid (fold_take Out.guilt S2 l j hlt)
      have hle := fold_len Out.guilt guiltW Out.guilt_lenW (l.take j) S2
      have hle2 := sumL_take guiltW l j hlt
      have hx := (hd l[j] (List.getElem_mem hlt))
      generalize hxx : l[j] = x at *
      clear hxx
      have c0 : wr.cell? ⟨b, off + j * 12, none⟩ = some (.int .i64 x.a.h) := hc 0 _ rfl
      have c1 : wr.cell? ⟨b, off + j * 12 + 1, none⟩ = some (.int .i64 x.a.r) := hc 1 _ rfl
      have c2 : wr.cell? ⟨b, off + j * 12 + 2, none⟩ = some (.int .i64 x.a.s) := hc 2 _ rfl
      have c3 : wr.cell? ⟨b, off + j * 12 + 3, none⟩ = some (.bool x.a.has) := hc 3 _ rfl
      have c4 : wr.cell? ⟨b, off + j * 12 + 4, none⟩ = some (.int .u64 x.a.b) := hc 4 _ rfl
      have c5 : wr.cell? ⟨b, off + j * 12 + 5, none⟩ = some (.int .i64 x.a.f) := hc 5 _ rfl
      have c6 : wr.cell? ⟨b, off + j * 12 + 6, none⟩ = some (.int .i64 x.b.h) := hc 6 _ rfl
      have c7 : wr.cell? ⟨b, off + j * 12 + 7, none⟩ = some (.int .i64 x.b.r) := hc 7 _ rfl
      have c8 : wr.cell? ⟨b, off + j * 12 + 8, none⟩ = some (.int .i64 x.b.s) := hc 8 _ rfl
      have c9 : wr.cell? ⟨b, off + j * 12 + 9, none⟩ = some (.bool x.b.has) := hc 9 _ rfl
      have c10 : wr.cell? ⟨b, off + j * 12 + 10, none⟩ = some (.int .u64 x.b.b) := hc 10 _ rfl
      have c11 : wr.cell? ⟨b, off + j * 12 + 11, none⟩ = some (.int .i64 x.b.f) := hc 11 _ rfl
      clear hc
      go_wp2_with fail
      refine (wguilt_any x hx _ g _ (hW.alloc _) (by unfold guiltW at *; omega)).mono ?_
      rintro e w3 ⟨rfl, hW3, hT3⟩
      go_wp2_with fail
      go_roundw
      case rel => exact ⟨j + 1, by go_num, by omega, by rw [HS.out]; exact hW3, (hT.alloc (Nat.le_of_lt hgw) _).trans hT3⟩
      case measure => simp [intOf]; omega
    · have hji : ¬ (j : Int) < (l.length : Int) := by omega
      go_wp2
      go_end0
      rw [List.take_of_length_le (by omega)] at hW
      exact ⟨rfl, by rw [hE.out]; exact hW, hT⟩
set_option maxRecDepth 100000 in
set_option maxHeartbeats 1000000 in
theorem putsCert_any (l : List CertD) (A : Option Addr) (c B : Nat) (m : Int) (w : World) (g : Nat) (S : Out) (h : Wrt w g S) (hr : CertsL w B A l) (hB : B ≤ g) (hd : ∀ x ∈ l, x.held w B) (hl : S.b.length + 6 + sumL certW l ≤ 58999999960000) (hm : l.length ≤ maxLen) :
    Calls Try.prog 141 #[.pointer (some ⟨g, 0, none⟩), .slice A l.length c, .int .i64 m, .func (.func 142) #[] #[]] w fun e w' => e = .returned (.tuple #[]) ∧ Wrt w' g (S.list l m Out.cert) ∧ Turned w w' g := by
  unfold maxLen at hm
  have hgt := h.lt
  have hn := ((S.lim l.length m).num_len l.length)
  have hb0 : (S.lim l.length m).b.length = S.b.length := rfl
  have hE : Hid (S.list l m Out.cert = l.foldl Out.cert ((S.lim l.length m).num l.length)) := rfl
  go_enter Try.func141, Try.ntmps141
  go_wp2_with fail
  refine (limited_any _ _ _ g _ h).mono ?_
  rintro e w1 ⟨rfl, hW1, hT1⟩
  go_wp2_with fail
  refine (number_any _ _ g _ hW1 (by omega)).mono ?_
  rintro e w2 ⟨rfl, hW2, hT2⟩
  have hT02 := hT1.trans hT2
  clear hT1 hT2 hW1
  generalize (S.lim l.length m).num l.length = S2 at *
  go_wp2_with fail
  go_loopw [9, 21] (fun _ i wr => ∃ j : Nat, i = .int .i64 (j : Int) ∧ j ≤ l.length ∧ Wrt wr g ((l.take j).foldl Out.cert S2) ∧ Turned w wr g) (fun _ i _ => l.length - (intOf i).toNat)
  case atStart => exact ⟨0, rfl, by omega, by simpa using hW2, hT02⟩
  case round =>
   as_aux_lemma =>
    obtain ⟨j, rfl, hj, hW, hT⟩ := hrel
    have hgw := hW.lt
    by_cases hlt : j < l.length
    · as_aux_lemma =>
      have hji : (j : Int) < (l.length : Int) := by omega
      obtain ⟨b, off, rfl, hbB, hc⟩ := CertsL.at_ (hT.rd hr hB) hlt
      have HS := Lib.hid (fold_take Out.cert S2 l j hlt)
      have hle := fold_len Out.cert certW Out.cert_lenW (l.take j) S2
      have hle2 := sumL_take certW l j hlt
      have hx := (hd l[j] (List.getElem_mem hlt)).below (hT.low.mono hB)
      generalize hxx : l[j] = x at *
      clear hxx
      have c0 : wr.cell? ⟨b, off + j * 6, none⟩ = some (.int .i64 x.h) := hc 0 _ rfl
      have c1 : wr.cell? ⟨b, off + j * 6 + 1, none⟩ = some (.int .i64 x.r) := hc 1 _ rfl
      have c2 : wr.cell? ⟨b, off + j * 6 + 2, none⟩ = some (.int .i64 x.s) := hc 2 _ rfl
      have c3 : wr.cell? ⟨b, off + j * 6 + 3, none⟩ = some (.bool x.has) := hc 3 _ rfl
      have c4 : wr.cell? ⟨b, off + j * 6 + 4, none⟩ = some (.int .u64 x.b) := hc 4 _ rfl
      have c5 : wr.cell? ⟨b, off + j * 6 + 5, none⟩ = some (.slice x.fa x.froms.length x.fc) := hc 5 _ rfl
      clear hc
      go_wp2_with fail
      refine (wcert_any x B _ g _ (hW.alloc _) (by unfold certW at *; omega) (hx.below ((Below.refl B wr).alloc (by omega) _)) hB).mono ?_
      rintro e w3 ⟨rfl, hW3, hT3⟩
      go_wp2_with fail
      go_roundw
      case rel => exact ⟨j + 1, by go_num, by omega, by rw [HS.out]; exact hW3, (hT.alloc (Nat.le_of_lt hgw) _).trans hT3⟩
      case measure => simp [intOf]; omega
    · have hji : ¬ (j : Int) < (l.length : Int) := by omega
      go_wp2
      go_end0
      rw [List.take_of_length_le (by omega)] at hW
      exact ⟨rfl, by rw [hE.out]; exact hW, hT⟩
set_option maxRecDepth 100000 in
set_option maxHeartbeats 1000000 in
theorem wblock_any (x : BlockD) (B : Nat) (w : World) (g : Nat) (S : Out) (h : Wrt w g S) (hl : S.b.length + 40 * blockM x ≤ 58999999950000) (hx : x.held w B) (hB : B ≤ g) :
    Calls Try.prog 140 #[.pointer (some ⟨g, 0, none⟩), x.val] w fun e w' => e = .returned (.tuple #[]) ∧ Wrt w' g (S.block x) ∧ Turned w w' g := by
  have hgt := h.lt
  have hE : Hid (S.block x = ((S.header x.header).list x.txs 16 Out.tx).list x.guilts 4 Out.guilt) := rfl
  obtain ⟨⟨h1, h2, h3, h4, h5, h6, h7, h8, h9⟩, ts, tA, tc, gs, gA, gc⟩ := x
  simp only [blockM, headerM] at hl
  try dsimp only at hl
  obtain ⟨hxh, hxt, hxg, ⟨hs0, hs1⟩, hxq, hxo⟩ := hx
  dsimp only at hxh hxt hxg hs0 hs1 hxq hxo
  have hsw1 := txs_W ts
  have hsw2 : sumL guiltW gs = 66 * gs.length := sumL_const 66 gs
  have hsw3 : sumL guiltM gs = 15 * gs.length := sumL_const 15 gs
  dsimp only [BlockD.val]
  go_enter Try.func140, Try.ntmps140
  go_wp2_with fail
  refine (wheader_any ⟨h1, h2, h3, h4, h5, h6, h7, h8, h9⟩ hxh _ g _ (h.alloc _) (by omega)).mono ?_
  rintro e w1 ⟨rfl, hW1, hC1⟩
  have hB1 := hC1.blk (Blk.new _ _ _) (by omega) (by decide)
  have hT1 := ((Turned.refl w g).alloc (by omega) _).trans hC1
  have hlt1 := hB1.lt
  have hgl1 := hW1.lt
  have ll1 := S.header_len ⟨h1, h2, h3, h4, h5, h6, h7, h8, h9⟩
  generalize S.header ⟨h1, h2, h3, h4, h5, h6, h7, h8, h9⟩ = S1 at *
  have c1_0 := (hB1.cell 0).trans (show _ = some (.int .i64 h1) from rfl)
  have c1_1 := (hB1.cell 1).trans (show _ = some (.int .i64 h2) from rfl)
  have c1_2 := (hB1.cell 2).trans (show _ = some (.int .u64 h3) from rfl)
  have c1_3 := (hB1.cell 3).trans (show _ = some (.int .u64 h4) from rfl)
  have c1_4 := (hB1.cell 4).trans (show _ = some (.int .u64 h5) from rfl)
  have c1_5 := (hB1.cell 5).trans (show _ = some (.int .u64 h6) from rfl)
  have c1_6 := (hB1.cell 6).trans (show _ = some (.int .u64 h7) from rfl)
  have c1_7 := (hB1.cell 7).trans (show _ = some (.int .u64 h8) from rfl)
  have c1_8 := (hB1.cell 8).trans (show _ = some (.int .i64 h9) from rfl)
  have c1_9 := (hB1.cell 9).trans (show _ = some (.slice tA ts.length tc) from rfl)
  have c1_10 := (hB1.cell 10).trans (show _ = some (.slice gA gs.length gc) from rfl)
  go_wp2_with fail
  refine (putsTx_any ts tA tc B 16 _ g _ hW1 (hT1.rd hxt hB) hB (fun y hy => (hxq y hy).below (hT1.low.mono hB)) (by omega) hs0).mono ?_
  rintro e w2 ⟨rfl, hW2, hC2⟩
  have hB2 := hC2.blk hB1 (by omega) (by decide)
  have hT2 := hT1.trans hC2
  have hlt2 := hB2.lt
  have hgl2 := hW2.lt
  have ll2 := list_len Out.tx txW Out.tx_lenW ts 16 S1
  generalize S1.list ts 16 Out.tx = S2 at *
  have c2_0 := (hB2.cell 0).trans (show _ = some (.int .i64 h1) from rfl)
  have c2_1 := (hB2.cell 1).trans (show _ = some (.int .i64 h2) from rfl)
  have c2_2 := (hB2.cell 2).trans (show _ = some (.int .u64 h3) from rfl)
  have c2_3 := (hB2.cell 3).trans (show _ = some (.int .u64 h4) from rfl)
  have c2_4 := (hB2.cell 4).trans (show _ = some (.int .u64 h5) from rfl)
  have c2_5 := (hB2.cell 5).trans (show _ = some (.int .u64 h6) from rfl)
  have c2_6 := (hB2.cell 6).trans (show _ = some (.int .u64 h7) from rfl)
  have c2_7 := (hB2.cell 7).trans (show _ = some (.int .u64 h8) from rfl)
  have c2_8 := (hB2.cell 8).trans (show _ = some (.int .i64 h9) from rfl)
  have c2_9 := (hB2.cell 9).trans (show _ = some (.slice tA ts.length tc) from rfl)
  have c2_10 := (hB2.cell 10).trans (show _ = some (.slice gA gs.length gc) from rfl)
  go_wp2_with fail
  refine (putsGuilt_any gs gA gc B 4 _ g _ hW2 (hT2.rd hxg hB) hB hxo (by omega) hs1).mono ?_
  rintro e w3 ⟨rfl, hW3, hC3⟩
  have hB3 := hC3.blk hB2 (by omega) (by decide)
  have hT3 := hT2.trans hC3
  have hlt3 := hB3.lt
  have hgl3 := hW3.lt
  generalize S2.list gs 4 Out.guilt = S3 at *
  go_wp2_with fail
  go_end0
  exact ⟨rfl, Wrt.eq hW3 (by rw [hE.out] <;> rfl), hT3⟩
set_option maxRecDepth 100000 in
set_option maxHeartbeats 1000000 in
theorem wmotion_any (x : MotionD) (B : Nat) (w : World) (g : Nat) (S : Out) (h : Wrt w g S) (hl : S.b.length + 40 * motionM x ≤ 58999999945000) (hx : x.held w B) (hB : B ≤ g) :
    Calls Try.prog 94 #[.pointer (some ⟨g, 0, none⟩), x.val] w fun e w' => e = .returned (.tuple #[]) ∧ Wrt w' g (S.motion x) ∧ Turned w w' g := by
  have hgt := h.lt
  have hE : Hid (S.motion x = (((S.nums [x.r, x.f]).block x.block).list x.basis 1 Out.cert).need (decide (1 ≤ x.f))) := rfl
  obtain ⟨x1, x2, ⟨⟨h1, h2, h3, h4, h5, h6, h7, h8, h9⟩, ts, tA, tc, gs, gA, gc⟩, bl, bA, bc⟩ := x
  simp only [motionM] at hl
  try dsimp only at hl
  obtain ⟨hxb, hxr, hs0, hxq⟩ := hx
  dsimp only at hxb hxr hs0 hxq
  have hsw1 := certs_W bl
  dsimp only [MotionD.val]
  go_enter Try.func94, Try.ntmps94
  go_wp2_with fail
  have ll1 := S.nums_len [x1, x2]
  simp only [List.length_cons, List.length_nil] at ll1
  refine (numbers_any [x1, x2] 2 _ g (w.heap.size + 1) S ((h.alloc _).alloc _) (by have hN := Blk.new (w.alloc (.cells #[.int .i64 x1, .int .i64 x2, .int .i64 h1, .int .i64 h2, .int .u64 h3, .int .u64 h4, .int .u64 h5, .int .u64 h6, .int .u64 h7, .int .u64 h8, .int .i64 h9, .slice tA ts.length tc, .slice gA gs.length gc, .slice bA bl.length bc] 34)) 3 #[.int .i64 x1, .int .i64 x2]; simpa using hN) (by omega) (by simp; omega)).mono ?_
  rintro e w1 ⟨rfl, hW1, hC1⟩
  have hB1 := hC1.blk ((Blk.new _ _ _).alloc _) (by omega) (by decide)
  have hT1 := (((Turned.refl w g).alloc (by omega) _).alloc (by simp; omega) _).trans hC1
  have hlt1 := hB1.lt
  have hgl1 := hW1.lt
  generalize S.nums [x1, x2] = S1 at *
  have c1_0 := (hB1.cell 0).trans (show _ = some (.int .i64 x1) from rfl)
  have c1_1 := (hB1.cell 1).trans (show _ = some (.int .i64 x2) from rfl)
  have c1_2 := (hB1.cell 2).trans (show _ = some (.int .i64 h1) from rfl)
  have c1_3 := (hB1.cell 3).trans (show _ = some (.int .i64 h2) from rfl)
  have c1_4 := (hB1.cell 4).trans (show _ = some (.int .u64 h3) from rfl)
  have c1_5 := (hB1.cell 5).trans (show _ = some (.int .u64 h4) from rfl)
  have c1_6 := (hB1.cell 6).trans (show _ = some (.int .u64 h5) from rfl)
  have c1_7 := (hB1.cell 7).trans (show _ = some (.int .u64 h6) from rfl)
  have c1_8 := (hB1.cell 8).trans (show _ = some (.int .u64 h7) from rfl)
  have c1_9 := (hB1.cell 9).trans (show _ = some (.int .u64 h8) from rfl)
  have c1_10 := (hB1.cell 10).trans (show _ = some (.int .i64 h9) from rfl)
  have c1_11 := (hB1.cell 11).trans (show _ = some (.slice tA ts.length tc) from rfl)
  have c1_12 := (hB1.cell 12).trans (show _ = some (.slice gA gs.length gc) from rfl)
  have c1_13 := (hB1.cell 13).trans (show _ = some (.slice bA bl.length bc) from rfl)
  go_wp2_with fail
  refine (wblock_any ⟨⟨h1, h2, h3, h4, h5, h6, h7, h8, h9⟩, ts, tA, tc, gs, gA, gc⟩ B _ g _ hW1 (by omega) (hxb.below (hT1.low.mono hB)) hB).mono ?_
  rintro e w2 ⟨rfl, hW2, hC2⟩
  have hB2 := hC2.blk hB1 (by omega) (by decide)
  have hT2 := hT1.trans hC2
  have hlt2 := hB2.lt
  have hgl2 := hW2.lt
  have ll2 := S1.block_len ⟨⟨h1, h2, h3, h4, h5, h6, h7, h8, h9⟩, ts, tA, tc, gs, gA, gc⟩
  generalize S1.block ⟨⟨h1, h2, h3, h4, h5, h6, h7, h8, h9⟩, ts, tA, tc, gs, gA, gc⟩ = S2 at *
  have c2_0 := (hB2.cell 0).trans (show _ = some (.int .i64 x1) from rfl)
  have c2_1 := (hB2.cell 1).trans (show _ = some (.int .i64 x2) from rfl)
  have c2_2 := (hB2.cell 2).trans (show _ = some (.int .i64 h1) from rfl)
  have c2_3 := (hB2.cell 3).trans (show _ = some (.int .i64 h2) from rfl)
  have c2_4 := (hB2.cell 4).trans (show _ = some (.int .u64 h3) from rfl)
  have c2_5 := (hB2.cell 5).trans (show _ = some (.int .u64 h4) from rfl)
  have c2_6 := (hB2.cell 6).trans (show _ = some (.int .u64 h5) from rfl)
  have c2_7 := (hB2.cell 7).trans (show _ = some (.int .u64 h6) from rfl)
  have c2_8 := (hB2.cell 8).trans (show _ = some (.int .u64 h7) from rfl)
  have c2_9 := (hB2.cell 9).trans (show _ = some (.int .u64 h8) from rfl)
  have c2_10 := (hB2.cell 10).trans (show _ = some (.int .i64 h9) from rfl)
  have c2_11 := (hB2.cell 11).trans (show _ = some (.slice tA ts.length tc) from rfl)
  have c2_12 := (hB2.cell 12).trans (show _ = some (.slice gA gs.length gc) from rfl)
  have c2_13 := (hB2.cell 13).trans (show _ = some (.slice bA bl.length bc) from rfl)
  go_wp2_with fail
  refine (putsCert_any bl bA bc B 1 _ g _ hW2 (hT2.rd hxr hB) hB (fun y hy => (hxq y hy).below (hT2.low.mono hB)) (by omega) hs0).mono ?_
  rintro e w3 ⟨rfl, hW3, hC3⟩
  have hB3 := hC3.blk hB2 (by omega) (by decide)
  have hT3 := hT2.trans hC3
  have hlt3 := hB3.lt
  have hgl3 := hW3.lt
  have ll3 := list_len Out.cert certW Out.cert_lenW bl 1 S2
  generalize S2.list bl 1 Out.cert = S3 at *
  have c3_0 := (hB3.cell 0).trans (show _ = some (.int .i64 x1) from rfl)
  have c3_1 := (hB3.cell 1).trans (show _ = some (.int .i64 x2) from rfl)
  have c3_2 := (hB3.cell 2).trans (show _ = some (.int .i64 h1) from rfl)
  have c3_3 := (hB3.cell 3).trans (show _ = some (.int .i64 h2) from rfl)
  have c3_4 := (hB3.cell 4).trans (show _ = some (.int .u64 h3) from rfl)
  have c3_5 := (hB3.cell 5).trans (show _ = some (.int .u64 h4) from rfl)
  have c3_6 := (hB3.cell 6).trans (show _ = some (.int .u64 h5) from rfl)
  have c3_7 := (hB3.cell 7).trans (show _ = some (.int .u64 h6) from rfl)
  have c3_8 := (hB3.cell 8).trans (show _ = some (.int .u64 h7) from rfl)
  have c3_9 := (hB3.cell 9).trans (show _ = some (.int .u64 h8) from rfl)
  have c3_10 := (hB3.cell 10).trans (show _ = some (.int .i64 h9) from rfl)
  have c3_11 := (hB3.cell 11).trans (show _ = some (.slice tA ts.length tc) from rfl)
  have c3_12 := (hB3.cell 12).trans (show _ = some (.slice gA gs.length gc) from rfl)
  have c3_13 := (hB3.cell 13).trans (show _ = some (.slice bA bl.length bc) from rfl)
  go_wp2_with fail
  all_goals
    refine (need_any _ _ g _ hW3).mono ?_
    rintro e w4 ⟨rfl, hW4, hC4⟩
    have hB4 := hC4.blk hB3 (by omega) (by decide)
    have hT4 := hT3.trans hC4
    have hlt4 := hB4.lt
    have hgl4 := hW4.lt
    go_wp2_with fail
    go_end0
    exact ⟨rfl, Wrt.eq hW4 (by rw [hE.out] <;> rfl), hT4⟩
set_option maxRecDepth 100000 in
set_option maxHeartbeats 1000000 in
theorem wknown_any (x : KnownD) (B : Nat) (w : World) (g : Nat) (S : Out) (h : Wrt w g S) (hl : S.b.length + 40 * knownM x ≤ 58999999945000) (hx : x.held w B) (hB : B ≤ g) :
    Calls Try.prog 95 #[.pointer (some ⟨g, 0, none⟩), x.val] w fun e w' => e = .returned (.tuple #[]) ∧ Wrt w' g (S.known x) ∧ Turned w w' g := by
  have hgt := h.lt
  have hE : Hid (S.known x = (S.cert x.cert).block x.block) := rfl
  obtain ⟨⟨c1, c2, c3, c4, c5, c6, c6a, c6c⟩, ⟨⟨h1, h2, h3, h4, h5, h6, h7, h8, h9⟩, ts, tA, tc, gs, gA, gc⟩⟩ := x
  simp only [knownM] at hl
  try dsimp only at hl
  obtain ⟨hxc, hxb⟩ := hx
  dsimp only at hxc hxb
  dsimp only [KnownD.val]
  go_enter Try.func95, Try.ntmps95
  go_wp2_with fail
  refine (wcert_any ⟨c1, c2, c3, c4, c5, c6, c6a, c6c⟩ B _ g _ (h.alloc _) (by omega) (hxc.below (((Turned.refl w g).alloc (by omega) _).low.mono hB)) hB).mono ?_
  rintro e w1 ⟨rfl, hW1, hC1⟩
  have hB1 := hC1.blk (Blk.new _ _ _) (by omega) (by decide)
  have hT1 := ((Turned.refl w g).alloc (by omega) _).trans hC1
  have hlt1 := hB1.lt
  have hgl1 := hW1.lt
  have ll1 := S.cert_len ⟨c1, c2, c3, c4, c5, c6, c6a, c6c⟩
  generalize S.cert ⟨c1, c2, c3, c4, c5, c6, c6a, c6c⟩ = S1 at *
  have c1_0 := (hB1.cell 0).trans (show _ = some (.int .i64 c1) from rfl)
  have c1_1 := (hB1.cell 1).trans (show _ = some (.int .i64 c2) from rfl)
  have c1_2 := (hB1.cell 2).trans (show _ = some (.int .i64 c3) from rfl)
  have c1_3 := (hB1.cell 3).trans (show _ = some (.bool c4) from rfl)
  have c1_4 := (hB1.cell 4).trans (show _ = some (.int .u64 c5) from rfl)
  have c1_5 := (hB1.cell 5).trans (show _ = some (.slice c6a c6.length c6c) from rfl)
  have c1_6 := (hB1.cell 6).trans (show _ = some (.int .i64 h1) from rfl)
  have c1_7 := (hB1.cell 7).trans (show _ = some (.int .i64 h2) from rfl)
  have c1_8 := (hB1.cell 8).trans (show _ = some (.int .u64 h3) from rfl)
  have c1_9 := (hB1.cell 9).trans (show _ = some (.int .u64 h4) from rfl)
  have c1_10 := (hB1.cell 10).trans (show _ = some (.int .u64 h5) from rfl)
  have c1_11 := (hB1.cell 11).trans (show _ = some (.int .u64 h6) from rfl)
  have c1_12 := (hB1.cell 12).trans (show _ = some (.int .u64 h7) from rfl)
  have c1_13 := (hB1.cell 13).trans (show _ = some (.int .u64 h8) from rfl)
  have c1_14 := (hB1.cell 14).trans (show _ = some (.int .i64 h9) from rfl)
  have c1_15 := (hB1.cell 15).trans (show _ = some (.slice tA ts.length tc) from rfl)
  have c1_16 := (hB1.cell 16).trans (show _ = some (.slice gA gs.length gc) from rfl)
  go_wp2_with fail
  refine (wblock_any ⟨⟨h1, h2, h3, h4, h5, h6, h7, h8, h9⟩, ts, tA, tc, gs, gA, gc⟩ B _ g _ hW1 (by omega) (hxb.below (hT1.low.mono hB)) hB).mono ?_
  rintro e w2 ⟨rfl, hW2, hC2⟩
  have hB2 := hC2.blk hB1 (by omega) (by decide)
  have hT2 := hT1.trans hC2
  have hlt2 := hB2.lt
  have hgl2 := hW2.lt
  generalize S1.block ⟨⟨h1, h2, h3, h4, h5, h6, h7, h8, h9⟩, ts, tA, tc, gs, gA, gc⟩ = S2 at *
  go_wp2_with fail
  go_end0
  exact ⟨rfl, Wrt.eq hW2 (by rw [hE.out] <;> rfl), hT2⟩
end Go.Proofs.Ytjjkdmngmopjbaa
