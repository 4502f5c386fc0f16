/- Of the texts Wr13, Wr14, Wr16. -/
import Derived.Test.YtjjkdmngmopjbaaProg
import Derived.Test.YtjjkdmngmopjbaaG23
import Derived.Deep.DeepCutAuto
import Derived.Test.YtjjkdmngmopjbaaG22
set_option linter.unusedSimpArgs false
set_option linter.unusedVariables false
namespace Go.Proofs.Ytjjkdmngmopjbaa
open Go.RowKit
set_option maxRecDepth 100000 in
set_option maxHeartbeats 1000000 in
theorem putsInt_any (l : List Int) (A : Option Addr) (c B : Nat) (m : Int) (w : World) (g : Nat) (S : Out) (h : Wrt w g S) (hr : Ints w B A l) (hB : B ≤ g) (hl : S.b.length + 6 + sumL numW l ≤ 60000000000000) (hm : l.length ≤ maxLen) :
    Calls Try.prog 170 #[.pointer (some ⟨g, 0, none⟩), .slice A l.length c, .int .i64 m, .func (.func 89) #[] #[]] w fun e w' => e = .returned (.tuple #[]) ∧ Wrt w' g (S.list l m Out.num) ∧ Turned w w' g := by
  unfold maxLen at hm
  have hgt := h.lt
  have hn := ((S.lim l.length m).num_len l.length)
  have hb0 : (S.lim l.length m).b.length = S.b.length := rfl
  have hE : Hid (S.list l m Out.num = l.foldl Out.num ((S.lim l.length m).num l.length)) := rfl
  go_enter Try.func170, Try.ntmps170
  go_wp2_with fail
  refine (limited_any _ _ _ g _ h).mono ?_
  rintro e w1 ⟨rfl, hW1, hT1⟩
  go_wp2_with fail
  refine (number_any _ _ g _ hW1 (by omega)).mono ?_
  rintro e w2 ⟨rfl, hW2, hT2⟩
  have hT02 := hT1.trans hT2
  clear hT1 hT2 hW1
  generalize (S.lim l.length m).num l.length = S2 at *
  go_wp2_with fail
  go_loopw [9, 21] (fun _ i wr => ∃ j : Nat, i = .int .i64 (j : Int) ∧ j ≤ l.length ∧ Wrt wr g ((l.take j).foldl Out.num S2) ∧ Turned w wr g) (fun _ i _ => l.length - (intOf i).toNat)
  case atStart => exact ⟨0, rfl, by omega, by simpa using hW2, hT02⟩
  case round =>
    obtain ⟨j, rfl, hj, hW, hT⟩ := hrel
    have hgw := hW.lt
    by_cases hlt : j < l.length
    · have hji : (j : Int) < (l.length : Int) := by omega
      obtain ⟨b, off, rfl, hbB, hc⟩ := Ints.at_ (hT.rd hr hB) hlt
      have HS := Lib.hid (fold_take Out.num S2 l j hlt)
      have hle := fold_len Out.num numW Out.num_lenW (l.take j) S2
      have hle2 := sumL_take numW l j hlt
      generalize hxx : l[j] = x at *
      clear hxx
      have c0 : wr.cell? ⟨b, off + j, none⟩ = some (.int .i64 x) := hc
      clear hc
      go_wp2_with fail
      refine (number_any x _ g _ hW (by unfold numW at *; omega)).mono ?_
      rintro e w3 ⟨rfl, hW3, hT3⟩
      go_wp2_with fail
      go_roundw
      case rel => exact ⟨j + 1, by go_num, by omega, by rw [HS.out]; exact hW3, hT.trans hT3⟩
      case measure => simp [intOf]; omega
    · have hji : ¬ (j : Int) < (l.length : Int) := by omega
      go_wp2
      go_end0
      rw [List.take_of_length_le (by omega)] at hW
      exact ⟨rfl, by rw [hE.out]; exact hW, hT⟩
set_option maxRecDepth 100000 in
set_option maxHeartbeats 1000000 in
theorem putsTurn_any (l : List TurnD) (A : Option Addr) (c B : Nat) (m : Int) (w : World) (g : Nat) (S : Out) (h : Wrt w g S) (hr : TurnsL w B A l) (hB : B ≤ g) (hd : ∀ x ∈ l, x.ok) (hl : S.b.length + 6 + sumL turnW l ≤ 60000000000000) (hm : l.length ≤ maxLen) :
    Calls Try.prog 177 #[.pointer (some ⟨g, 0, none⟩), .slice A l.length c, .int .i64 m, .func (.func 178) #[] #[]] w fun e w' => e = .returned (.tuple #[]) ∧ Wrt w' g (S.list l m Out.turn) ∧ Turned w w' g := by
  unfold maxLen at hm
  have hgt := h.lt
  have hn := ((S.lim l.length m).num_len l.length)
  have hb0 : (S.lim l.length m).b.length = S.b.length := rfl
  have hE : Hid (S.list l m Out.turn = l.foldl Out.turn ((S.lim l.length m).num l.length)) := rfl
  go_enter Try.func177, Try.ntmps177
  go_wp2_with fail
  refine (limited_any _ _ _ g _ h).mono ?_
  rintro e w1 ⟨rfl, hW1, hT1⟩
  go_wp2_with fail
  refine (number_any _ _ g _ hW1 (by omega)).mono ?_
  rintro e w2 ⟨rfl, hW2, hT2⟩
  have hT02 := hT1.trans hT2
  clear hT1 hT2 hW1
  generalize (S.lim l.length m).num l.length = S2 at *
  go_wp2_with fail
  go_loopw [9, 21] (fun _ i wr => ∃ j : Nat, i = .int .i64 (j : Int) ∧ j ≤ l.length ∧ Wrt wr g ((l.take j).foldl Out.turn S2) ∧ Turned w wr g) (fun _ i _ => l.length - (intOf i).toNat)
  case atStart => exact ⟨0, rfl, by omega, by simpa using hW2, hT02⟩
  case round =>
    obtain ⟨j, rfl, hj, hW, hT⟩ := hrel
    have hgw := hW.lt
    by_cases hlt : j < l.length
    · have hji : (j : Int) < (l.length : Int) := by omega
      obtain ⟨b, off, rfl, hbB, hc⟩ := TurnsL.at_ (hT.rd hr hB) hlt
      have HS := Lib.hid (fold_take Out.turn S2 l j hlt)
      have hle := fold_len Out.turn turnW Out.turn_lenW (l.take j) S2
      have hle2 := sumL_take turnW l j hlt
      have hx := (hd l[j] (List.getElem_mem hlt))
      generalize hxx : l[j] = x at *
      clear hxx
      have c0 : wr.cell? ⟨b, off + j * 2, none⟩ = some (.int .i64 x.p) := hc 0 _ rfl
      have c1 : wr.cell? ⟨b, off + j * 2 + 1, none⟩ = some (.int .u64 x.d) := hc 1 _ rfl
      clear hc
      go_wp2_with fail
      refine (wturn_any x hx _ g _ (hW.alloc _) (by unfold turnW at *; omega)).mono ?_
      rintro e w3 ⟨rfl, hW3, hT3⟩
      go_wp2_with fail
      go_roundw
      case rel => exact ⟨j + 1, by go_num, by omega, by rw [HS.out]; exact hW3, (hT.alloc (Nat.le_of_lt hgw) _).trans hT3⟩
      case measure => simp [intOf]; omega
    · have hji : ¬ (j : Int) < (l.length : Int) := by omega
      go_wp2
      go_end0
      rw [List.take_of_length_le (by omega)] at hW
      exact ⟨rfl, by rw [hE.out]; exact hW, hT⟩
set_option maxRecDepth 100000 in
set_option maxHeartbeats 1000000 in
theorem wcert_any (x : CertD) (B : Nat) (w : World) (g : Nat) (S : Out) (h : Wrt w g S) (hl : S.b.length + 40 * certM x ≤ 59000000000000) (hx : x.held w B) (hB : B ≤ g) :
    Calls Try.prog 142 #[.pointer (some ⟨g, 0, none⟩), x.val] w fun e w' => e = .returned (.tuple #[]) ∧ Wrt w' g (S.cert x) ∧ Turned w w' g := by
  have hgt := h.lt
  have hE : Hid (S.cert x = ((((((S.nums [x.h, x.r, x.s]).flag x.has).dig x.b).list x.froms 7 Out.num).need (decide (x.s = 1) || decide (x.s = 2))).need (x.has || decide (x.b = 0))).need (allTo (fromOk x.froms) x.froms.length)) := by show _ = _; rw [Out.need_need (_ : Out) (decide (x.s = 1) || decide (x.s = 2))]; rfl
  simp only [certM] at hl
  obtain ⟨x1, x2, x3, x4, x5, x6, x6a, x6c⟩ := x
  dsimp only at hl hx
  dsimp only [CertD.val]
  obtain ⟨⟨hx0, hx1⟩, hxr, hxs⟩ := hx
  dsimp only at hx0 hx1 hxr hxs
  go_enter Try.func142, Try.ntmps142
  go_wp2_with fail
  generalize Value.agg #[.int .i64 x1, .int .i64 x2, .int .i64 x3, .bool x4, .int .u64 x5, .slice x6a x6.length x6c] = V
  have ll1 := S.nums_len [x1, x2, x3]
  simp only [List.length_cons, List.length_nil] at ll1
  refine (numbers_any [x1, x2, x3] 3 _ g (w.heap.size + 1) S ((h.alloc _).alloc _) (by have hN := Blk.new (w.alloc (.cells #[.int .i64 x1, .int .i64 x2, .int .i64 x3, .bool x4, .int .u64 x5, .slice x6a x6.length x6c] 37)) 3 #[.int .i64 x1, .int .i64 x2, .int .i64 x3]; simpa using hN) (by omega) (by simp; omega)).mono ?_
  rintro e w1 ⟨rfl, hW1, hC1⟩
  have hB1 := hC1.blk ((Blk.new _ _ _).alloc _) (by omega) (by decide)
  have hT1 := (((Turned.refl w g).alloc (by omega) _).alloc (by simp; omega) _).trans hC1
  have hlt1 := hB1.lt
  have hgl1 := hW1.lt
  generalize S.nums [x1, x2, x3] = S1 at *
  have c1_0 := (hB1.cell 0).trans (show _ = some (.int .i64 x1) from rfl)
  have c1_1 := (hB1.cell 1).trans (show _ = some (.int .i64 x2) from rfl)
  have c1_2 := (hB1.cell 2).trans (show _ = some (.int .i64 x3) from rfl)
  have c1_3 := (hB1.cell 3).trans (show _ = some (.bool x4) from rfl)
  have c1_4 := (hB1.cell 4).trans (show _ = some (.int .u64 x5) from rfl)
  have c1_5 := (hB1.cell 5).trans (show _ = some (.slice x6a x6.length x6c) from rfl)
  go_wp2_with fail
  refine (flag_any _ _ g _ hW1 (by omega)).mono ?_
  rintro e w2 ⟨rfl, hW2, hC2⟩
  have hB2 := hC2.blk hB1 (by omega) (by decide)
  have hT2 := hT1.trans hC2
  have hlt2 := hB2.lt
  have hgl2 := hW2.lt
  have ll2 := (by simp [Out.flag] : (S1.flag x4).b.length ≤ S1.b.length + 1)
  generalize S1.flag x4 = S2 at *
  have c2_0 := (hB2.cell 0).trans (show _ = some (.int .i64 x1) from rfl)
  have c2_1 := (hB2.cell 1).trans (show _ = some (.int .i64 x2) from rfl)
  have c2_2 := (hB2.cell 2).trans (show _ = some (.int .i64 x3) from rfl)
  have c2_3 := (hB2.cell 3).trans (show _ = some (.bool x4) from rfl)
  have c2_4 := (hB2.cell 4).trans (show _ = some (.int .u64 x5) from rfl)
  have c2_5 := (hB2.cell 5).trans (show _ = some (.slice x6a x6.length x6c) from rfl)
  go_wp2_with fail
  refine (digest_any _ _ g _ hW2 (by omega) (by omega) (by omega)).mono ?_
  rintro e w3 ⟨rfl, hW3, hC3⟩
  have hB3 := hC3.blk hB2 (by omega) (by decide)
  have hT3 := hT2.trans hC3
  have hlt3 := hB3.lt
  have hgl3 := hW3.lt
  have ll3 := (by simp [Out.dig, be_len] : (S2.dig x5).b.length ≤ S2.b.length + 8)
  generalize S2.dig x5 = S3 at *
  have c3_0 := (hB3.cell 0).trans (show _ = some (.int .i64 x1) from rfl)
  have c3_1 := (hB3.cell 1).trans (show _ = some (.int .i64 x2) from rfl)
  have c3_2 := (hB3.cell 2).trans (show _ = some (.int .i64 x3) from rfl)
  have c3_3 := (hB3.cell 3).trans (show _ = some (.bool x4) from rfl)
  have c3_4 := (hB3.cell 4).trans (show _ = some (.int .u64 x5) from rfl)
  have c3_5 := (hB3.cell 5).trans (show _ = some (.slice x6a x6.length x6c) from rfl)
  have hsw : sumL numW x6 = 6 * x6.length := sumL_const 6 x6
  go_wp2_with fail
  refine (putsInt_any x6 x6a x6c B 7 _ g _ hW3 (hT3.rd hxr hB) hB (by omega) hxs).mono ?_
  rintro e w4 ⟨rfl, hW4, hC4⟩
  have hB4 := hC4.blk hB3 (by omega) (by decide)
  have hT4 := hT3.trans hC4
  have hlt4 := hB4.lt
  have hgl4 := hW4.lt
  have ll4 := list_len Out.num numW Out.num_lenW x6 7 S3
  generalize S3.list x6 7 Out.num = S4 at *
  have c4_0 := (hB4.cell 0).trans (show _ = some (.int .i64 x1) from rfl)
  have c4_1 := (hB4.cell 1).trans (show _ = some (.int .i64 x2) from rfl)
  have c4_2 := (hB4.cell 2).trans (show _ = some (.int .i64 x3) from rfl)
  have c4_3 := (hB4.cell 3).trans (show _ = some (.bool x4) from rfl)
  have c4_4 := (hB4.cell 4).trans (show _ = some (.int .u64 x5) from rfl)
  have c4_5 := (hB4.cell 5).trans (show _ = some (.slice x6a x6.length x6c) from rfl)
  go_upto_region 5 with fail
  go_cut [37] (fun x wc => x = .tuple #[] ∧ Wrt wc g (S4.need (decide (x3 = 1) || decide (x3 = 2))) ∧ Blk wc w.heap.size 37 #[.int .i64 x1, .int .i64 x2, .int .i64 x3, .bool x4, .int .u64 x5, .slice x6a x6.length x6c] ∧ Turned w wc g)
  case first =>
    go_wp2_with fail
    all_goals
      refine (need_any _ _ g _ hW4).mono ?_
      rintro e w5 ⟨rfl, hW5, hC5⟩
      go_wp2_with fail
      go_meet
      exact ⟨rfl, hW5.eq (by congr 1; first | rfl | grind), hC5.blk hB4 (by omega) (by decide), hT4.trans hC5⟩
  case rest =>
    obtain ⟨w5, rfl⟩ : ∃ x : World, x = wc := ⟨_, rfl⟩
    obtain ⟨rfl, hW5, hB5, hT5⟩ := hcut
    have hlt5 := hB5.lt
    have hgl5 := hW5.lt
    have ll5 : (S4.need (decide (x3 = 1) || decide (x3 = 2))).b.length = S4.b.length := rfl
    generalize S4.need (decide (x3 = 1) || decide (x3 = 2)) = S5 at *
    have c5_0 := (hB5.cell 0).trans (show _ = some (.int .i64 x1) from rfl)
    have c5_1 := (hB5.cell 1).trans (show _ = some (.int .i64 x2) from rfl)
    have c5_2 := (hB5.cell 2).trans (show _ = some (.int .i64 x3) from rfl)
    have c5_3 := (hB5.cell 3).trans (show _ = some (.bool x4) from rfl)
    have c5_4 := (hB5.cell 4).trans (show _ = some (.int .u64 x5) from rfl)
    have c5_5 := (hB5.cell 5).trans (show _ = some (.slice x6a x6.length x6c) from rfl)
    go_upto_region 6 with fail
    go_cut [46] (fun x wc => x = .tuple #[] ∧ Wrt wc g (S5.need (x4 || decide (x5 = 0))) ∧ Blk wc w.heap.size 37 #[.int .i64 x1, .int .i64 x2, .int .i64 x3, .bool x4, .int .u64 x5, .slice x6a x6.length x6c] ∧ Turned w wc g)
    case first =>
      go_wp2_with fail
      all_goals
        refine (need_any _ _ g _ hW5).mono ?_
        rintro e w6 ⟨rfl, hW6, hC6⟩
        go_wp2_with fail
        go_meet
        exact ⟨rfl, hW6.eq (by congr 1; first | rfl | grind), hC6.blk hB5 (by omega) (by decide), hT5.trans hC6⟩
    case rest =>
      obtain ⟨w6, rfl⟩ : ∃ x : World, x = wc := ⟨_, rfl⟩
      obtain ⟨rfl, hW6, hB6, hT6⟩ := hcut
      have hlt6 := hB6.lt
      have hgl6 := hW6.lt
      have ll6 : (S5.need (x4 || decide (x5 = 0))).b.length = S5.b.length := rfl
      generalize S5.need (x4 || decide (x5 = 0)) = S6 at *
      have c6_0 := (hB6.cell 0).trans (show _ = some (.int .i64 x1) from rfl)
      have c6_1 := (hB6.cell 1).trans (show _ = some (.int .i64 x2) from rfl)
      have c6_2 := (hB6.cell 2).trans (show _ = some (.int .i64 x3) from rfl)
      have c6_3 := (hB6.cell 3).trans (show _ = some (.bool x4) from rfl)
      have c6_4 := (hB6.cell 4).trans (show _ = some (.int .u64 x5) from rfl)
      have c6_5 := (hB6.cell 5).trans (show _ = some (.slice x6a x6.length x6c) from rfl)
      have hKf : Hid (∀ j (h : j < x6.length), fromOk x6 j = decide (prevI x6 j < x6[j])) := by
        intro j h
        simp [fromOk, List.getElem?_eq_getElem h]
      have hKp : Hid (∀ j (h : j < x6.length), prevI x6 (j + 1) = x6[j]) := by
        intro j h
        simp [prevI, List.getElem?_eq_getElem h]
      go_wp2_with fail
      go_loopw [4, 6, 50] (fun p _ i wr => ∃ j : Nat, i = .int .i64 (j : Int) ∧ j ≤ x6.length ∧ p = .int .i64 (prevI x6 j) ∧ Wrt wr g (S6.need (allTo (fromOk x6) j)) ∧ Turned w wr g) (fun _ _ i _ => x6.length - (intOf i).toNat)
      case atStart => exact ⟨0, rfl, by omega, rfl, by rw [show allTo (fromOk x6) 0 = true from rfl, Out.need_true]; exact hW6, hT6⟩
      case round =>
        obtain ⟨j, rfl, hj, rfl, hW, hT⟩ := hrel
        by_cases hlt : j < x6.length
        · have hji : (j : Int) < (x6.length : Int) := by omega
          obtain ⟨b, off, rfl, hbB, d0⟩ := Ints.at_ (hT.rd hxr hB) hlt
          have hs := Lib.hid (hKf.out j hlt)
          have hs2 : Hid (allTo (fromOk x6) (j + 1) = (allTo (fromOk x6) j && fromOk x6 j)) := rfl
          have hs3 := Lib.hid (hKp.out j hlt)
          generalize x6[j] = y at *
          generalize prevI x6 j = pv at *
          go_wp2_with fail
          refine (need_any _ _ g _ hW).mono ?_
          rintro e w9 ⟨rfl, hW9, hT9⟩
          go_wp2_with fail
          go_roundw
          case rel => exact ⟨j + 1, by go_num, by omega, by rw [hs3.out], hW9.eq (by rw [Out.need_need, hs2.out, hs.out]), hT.trans hT9⟩
          case measure => simp [intOf]; omega
        · have hji : ¬ (j : Int) < (x6.length : Int) := by omega
          have hjl : Hid (j = x6.length) := show j = x6.length by omega
          go_wp2
          go_end0
          exact ⟨rfl, hW.eq (by rw [hE.out, ← hjl.out]), hT⟩
end Go.Proofs.Ytjjkdmngmopjbaa

namespace Go.Proofs.Ytjjkdmngmopjbaa
open Go.RowKit
set_option maxRecDepth 100000 in
set_option maxHeartbeats 1000000 in
theorem wheader_any (x : HeaderD) (hx : x.ok) (w : World) (g : Nat) (S : Out) (h : Wrt w g S) (hl : S.b.length + 2000 ≤ 70368744177000) :
    Calls Try.prog 115 #[.pointer (some ⟨g, 0, none⟩), x.val] w fun e w' => e = .returned (.tuple #[]) ∧ Wrt w' g (S.header x) ∧ Turned w w' g := by
  have hgt := h.lt
  have hE : Hid (S.header x = ((S.nums [x.c, x.h]).digs [x.p, x.t, x.g, x.s, x.r, x.b]).num x.o) := rfl
  obtain ⟨x1, x2, x3, x4, x5, x6, x7, x8, x9⟩ := x
  obtain ⟨⟨p0, p1⟩, ⟨t0, t1⟩, ⟨g0, g1⟩, ⟨s0, s1⟩, ⟨r0, r1⟩, ⟨b0, b1⟩⟩ := hx
  dsimp only at p0 p1 t0 t1 g0 g1 s0 s1 r0 r1 b0 b1
  dsimp only [HeaderD.val]
  go_enter Try.func115, Try.ntmps115
  go_wp2_with fail
  have ll1 := S.nums_len [x1, x2]
  simp only [List.length_cons, List.length_nil] at ll1
  refine (numbers_any [x1, x2] 2 _ g (w.heap.size + 1) S ((h.alloc _).alloc _) (by have hN := Blk.new (w.alloc (.cells #[.int .i64 x1, .int .i64 x2, .int .u64 x3, .int .u64 x4, .int .u64 x5, .int .u64 x6, .int .u64 x7, .int .u64 x8, .int .i64 x9] 27)) 3 #[.int .i64 x1, .int .i64 x2]; simpa using hN) (by omega) (by simp; omega)).mono ?_
  rintro e w1 ⟨rfl, hW1, hC1⟩
  have hB1 := hC1.blk ((Blk.new _ _ _).alloc _) (by omega) (by decide)
  have hT1 := (((Turned.refl w g).alloc (by omega) _).alloc (by simp; omega) _).trans hC1
  have hlt1 := hB1.lt
  have hgl1 := hW1.lt
  generalize S.nums [x1, x2] = S1 at *
  have c1_0 := (hB1.cell 0).trans (show _ = some (.int .i64 x1) from rfl)
  have c1_1 := (hB1.cell 1).trans (show _ = some (.int .i64 x2) from rfl)
  have c1_2 := (hB1.cell 2).trans (show _ = some (.int .u64 x3) from rfl)
  have c1_3 := (hB1.cell 3).trans (show _ = some (.int .u64 x4) from rfl)
  have c1_4 := (hB1.cell 4).trans (show _ = some (.int .u64 x5) from rfl)
  have c1_5 := (hB1.cell 5).trans (show _ = some (.int .u64 x6) from rfl)
  have c1_6 := (hB1.cell 6).trans (show _ = some (.int .u64 x7) from rfl)
  have c1_7 := (hB1.cell 7).trans (show _ = some (.int .u64 x8) from rfl)
  have c1_8 := (hB1.cell 8).trans (show _ = some (.int .i64 x9) from rfl)
  have c1_2 := (hB1.cell 2).trans (show _ = some (.int .u64 x3) from rfl)
  have c1_3 := (hB1.cell 3).trans (show _ = some (.int .u64 x4) from rfl)
  have c1_4 := (hB1.cell 4).trans (show _ = some (.int .u64 x5) from rfl)
  have c1_5 := (hB1.cell 5).trans (show _ = some (.int .u64 x6) from rfl)
  have c1_6 := (hB1.cell 6).trans (show _ = some (.int .u64 x7) from rfl)
  have c1_7 := (hB1.cell 7).trans (show _ = some (.int .u64 x8) from rfl)
  have hlq : ([x3, x4, x5, x6, x7, x8] : List Int).length = 6 := rfl
  have hdk : ∀ d ∈ [x3, x4, x5, x6, x7, x8], 0 ≤ d ∧ d < 18446744073709551616 := by
    intro d hd
    simp at hd
    rcases hd with rfl | rfl | rfl | rfl | rfl | rfl <;> omega
  have HDK := Lib.hid hdk
  clear hdk
  have hN : Blk (w1.alloc (.cells #[.int .u64 x3, .int .u64 x4, .int .u64 x5, .int .u64 x6, .int .u64 x7, .int .u64 x8] 23)) w1.heap.size 23 (([x3, x4, x5, x6, x7, x8] : List Int).map (Value.int .u64)).toArray := Blk.new _ _ _
  have hWn := hW1.alloc (.cells #[.int .u64 x3, .int .u64 x4, .int .u64 x5, .int .u64 x6, .int .u64 x7, .int .u64 x8] 23)
  have hBn := hB1.alloc (.cells #[.int .u64 x3, .int .u64 x4, .int .u64 x5, .int .u64 x6, .int .u64 x7, .int .u64 x8] 23)
  have hTn := hT1.alloc (by omega) (.cells #[.int .u64 x3, .int .u64 x4, .int .u64 x5, .int .u64 x6, .int .u64 x7, .int .u64 x8] 23)
  go_wp2_with fail
  generalize hdl : ([x3, x4, x5, x6, x7, x8] : List Int) = dl at *
  have HDL := Lib.hid hdl
  clear hdl
  go_loopw [5, 27] (fun _ i wr => ∃ j : Nat, i = .int .i64 (j : Int) ∧ j ≤ 6 ∧ Wrt wr g ((dl.take j).foldl Out.dig S1) ∧ Blk wr w1.heap.size 23 (dl.map (Value.int .u64)).toArray ∧ Blk wr w.heap.size 27 #[.int .i64 x1, .int .i64 x2, .int .u64 x3, .int .u64 x4, .int .u64 x5, .int .u64 x6, .int .u64 x7, .int .u64 x8, .int .i64 x9] ∧ Turned w wr g) (fun _ i _ => 6 - (intOf i).toNat)
  case atStart => exact ⟨0, rfl, by omega, by simpa using hWn, hN, hBn, hTn⟩
  case round =>
    obtain ⟨j, rfl, hj, hW, hDg, hBx, hT⟩ := hrel
    by_cases hlt : j < 6
    · have hji : (j : Int) < 6 := by omega
      have hl2 : j < dl.length := by omega
      have d0 : wr.cell? ⟨w1.heap.size, j, none⟩ = some (.int .u64 dl[j]) := (hDg.cell j).trans (by simp [List.getElem?_eq_getElem hl2])
      have HS := Lib.hid (fold_take Out.dig S1 dl j hl2)
      have hle := Out.digs_len S1 (dl.take j)
      have hle2 : (dl.take j).length ≤ j := by simp; omega
      have hdj := HDK.out dl[j] (List.getElem_mem hl2)
      generalize dl[j] = y at *
      unfold Out.digs at hle
      generalize (dl.take j).foldl Out.dig S1 = S7 at *
      go_wp2_with fail
      refine (digest_any _ _ g _ hW (by omega) (by omega) (by omega)).mono ?_
      rintro e w9 ⟨rfl, hW9, hC9⟩
      have hD9 := hC9.blk hDg (by omega) (by decide)
      have hB9 := hC9.blk hBx (by omega) (by decide)
      go_wp2_with fail
      go_roundw
      case rel => exact ⟨j + 1, by go_num, by omega, by rw [HS.out]; exact hW9, hD9, hB9, hT.trans hC9⟩
      case measure => simp [intOf]; omega
    · have hji : ¬ (j : Int) < 6 := by omega
      rw [List.take_of_length_le (by omega)] at hW
      have hle := Out.digs_len S1 dl
      have hEd : Hid (S1.digs dl = dl.foldl Out.dig S1) := rfl
      rw [hEd.out] at hle
      have k8 := (hBx.cell 8).trans (show _ = some (.int .i64 x9) from rfl)
      go_wp2_with fail
      refine (number_any _ _ g _ hW (by omega)).mono ?_
      rintro e w9 ⟨rfl, hW9, hC9⟩
      go_wp2_with fail
      go_end0
      exact ⟨rfl, hW9.eq (by rw [hE.out, hEd.out]), hT.trans hC9⟩
set_option maxRecDepth 100000 in
set_option maxHeartbeats 1000000 in
theorem wproof_any (x : ProofD) (B : Nat) (w : World) (g : Nat) (S : Out) (h : Wrt w g S) (hl : S.b.length + 40 * proofM x ≤ 59000000000000) (hx : x.held w B) (hB : B ≤ g) :
    Calls Try.prog 161 #[.pointer (some ⟨g, 0, none⟩), x.val] w fun e w' => e = .returned (.tuple #[]) ∧ Wrt w' g (S.proof x) ∧ Turned w w' g := by
  have hgt := h.lt
  have hE : Hid (S.proof x = (((((S.list x.turns 288 Out.turn).flag x.leaf).text x.key 32).text x.value 4096).need (allTo (turnOkAt x.turns) x.turns.length)).need (proofOk x)) := rfl
  have hK : Hid (proofOk x = ((x.leaf && !emp x.value) || (!x.leaf && decide (x.turns.length = 0) && emp x.key && emp x.value))) := rfl
  obtain ⟨ts, tA, tc, x2, x3, x4⟩ := x
  simp only [proofM, turns_M] at hl
  dsimp only [ProofD.val]
  obtain ⟨hxr, hxs, hxd⟩ := hx
  dsimp only at hxr hxs hxd
  have hsw := turns_W ts
  go_enter Try.func161, Try.ntmps161
  go_wp2_with fail
  refine (putsTurn_any ts tA tc B 288 _ g _ (h.alloc _) (((Turned.refl w g).alloc (by omega) _).rd hxr hB) hB hxd (by omega) hxs).mono ?_
  rintro e w1 ⟨rfl, hW1, hC1⟩
  have hB1 := hC1.blk (Blk.new _ _ _) (by omega) (by decide)
  have hT1 := ((Turned.refl w g).alloc (by omega) _).trans hC1
  have hlt1 := hB1.lt
  have hgl1 := hW1.lt
  have ll1 := list_len Out.turn turnW Out.turn_lenW ts 288 S
  generalize S.list ts 288 Out.turn = S1 at *
  have c1_0 := (hB1.cell 0).trans (show _ = some (.slice tA ts.length tc) from rfl)
  have c1_1 := (hB1.cell 1).trans (show _ = some (.bool x2) from rfl)
  have c1_2 := (hB1.cell 2).trans (show _ = some (.string (bs x3)) from rfl)
  have c1_3 := (hB1.cell 3).trans (show _ = some (.string (bs x4)) from rfl)
  go_wp2_with fail
  refine (flag_any _ _ g _ hW1 (by omega)).mono ?_
  rintro e w2 ⟨rfl, hW2, hC2⟩
  have hB2 := hC2.blk hB1 (by omega) (by decide)
  have hT2 := hT1.trans hC2
  have hlt2 := hB2.lt
  have hgl2 := hW2.lt
  have ll2 := (by simp [Out.flag] : (S1.flag x2).b.length ≤ S1.b.length + 1)
  generalize S1.flag x2 = S2 at *
  have c2_0 := (hB2.cell 0).trans (show _ = some (.slice tA ts.length tc) from rfl)
  have c2_1 := (hB2.cell 1).trans (show _ = some (.bool x2) from rfl)
  have c2_2 := (hB2.cell 2).trans (show _ = some (.string (bs x3)) from rfl)
  have c2_3 := (hB2.cell 3).trans (show _ = some (.string (bs x4)) from rfl)
  go_wp2_with fail
  refine (text_anyW x3 32 _ g _ hW2 (by omega)).mono ?_
  rintro e w3 ⟨rfl, hW3, hC3⟩
  have hB3 := hC3.blk hB2 (by omega) (by decide)
  have hT3 := hT2.trans hC3
  have hlt3 := hB3.lt
  have hgl3 := hW3.lt
  have ll3 := S2.text_len x3 32
  generalize S2.text x3 32 = S3 at *
  have c3_0 := (hB3.cell 0).trans (show _ = some (.slice tA ts.length tc) from rfl)
  have c3_1 := (hB3.cell 1).trans (show _ = some (.bool x2) from rfl)
  have c3_2 := (hB3.cell 2).trans (show _ = some (.string (bs x3)) from rfl)
  have c3_3 := (hB3.cell 3).trans (show _ = some (.string (bs x4)) from rfl)
  go_wp2_with fail
  refine (text_anyW x4 4096 _ g _ hW3 (by omega)).mono ?_
  rintro e w4 ⟨rfl, hW4, hC4⟩
  have hB4 := hC4.blk hB3 (by omega) (by decide)
  have hT4 := hT3.trans hC4
  have hlt4 := hB4.lt
  have hgl4 := hW4.lt
  have ll4 := S3.text_len x4 4096
  generalize S3.text x4 4096 = S4 at *
  have c4_0 := (hB4.cell 0).trans (show _ = some (.slice tA ts.length tc) from rfl)
  have c4_1 := (hB4.cell 1).trans (show _ = some (.bool x2) from rfl)
  have c4_2 := (hB4.cell 2).trans (show _ = some (.string (bs x3)) from rfl)
  have c4_3 := (hB4.cell 3).trans (show _ = some (.string (bs x4)) from rfl)
  have hKf : Hid (∀ j (h : j < ts.length), turnOkAt ts j = decide (prevT ts j < ts[j].p)) := by
    intro j h
    simp [turnOkAt, List.getElem?_eq_getElem h]
  have hKp : Hid (∀ j (h : j < ts.length), prevT ts (j + 1) = ts[j].p) := by
    intro j h
    simp [prevT, List.getElem?_eq_getElem h]
  go_wp2_with fail
  go_loopw [4, 6, 26] (fun p _ i wr => ∃ j : Nat, i = .int .i64 (j : Int) ∧ j ≤ ts.length ∧ p = .int .i64 (prevT ts j) ∧ Wrt wr g (S4.need (allTo (turnOkAt ts) j)) ∧ Blk wr w.heap.size 70 #[.slice tA ts.length tc, .bool x2, .string (bs x3), .string (bs x4)] ∧ Turned w wr g) (fun _ _ i _ => ts.length - (intOf i).toNat)
  case atStart => exact ⟨0, rfl, by omega, rfl, by rw [show allTo (turnOkAt ts) 0 = true from rfl, Out.need_true]; exact hW4, hB4, hT4⟩
  case round =>
    obtain ⟨j, rfl, hj, rfl, hW, hBx, hT⟩ := hrel
    have hgw := hW.lt
    by_cases hlt : j < ts.length
    · have hji : (j : Int) < (ts.length : Int) := by omega
      obtain ⟨b, off, rfl, hbB, hc⟩ := TurnsL.at_ (hT.rd hxr hB) hlt
      have hs := Lib.hid (hKf.out j hlt)
      have hs2 : Hid (allTo (turnOkAt ts) (j + 1) = (allTo (turnOkAt ts) j && turnOkAt ts j)) := rfl
      have hs3 := Lib.hid (hKp.out j hlt)
      have d0 : wr.cell? ⟨b, off + j * 2, none⟩ = some (.int .i64 ts[j].p) := hc 0 _ rfl
      have d1 : wr.cell? ⟨b, off + j * 2 + 1, none⟩ = some (.int .u64 ts[j].d) := hc 1 _ rfl
      generalize ts[j] = y at *
      clear hc
      generalize prevT ts j = pv at *
      go_wp2_with fail
      refine (need_any _ _ g _ (hW.alloc _)).mono ?_
      rintro e w9 ⟨rfl, hW9, hT9⟩
      have hB9 := hT9.blk (Blk.new _ _ _) (by omega) (by decide)
      have hBx9 := hT9.blk (hBx.alloc _) (by omega) (by decide)
      have d2 := (hB9.cell 0).trans (show _ = some (.int .i64 y.p) from rfl)
      go_wp2_with fail
      go_roundw
      case rel => exact ⟨j + 1, by go_num, by omega, by rw [hs3.out], hW9.eq (by rw [Out.need_need, hs2.out, hs.out]), hBx9, (hT.alloc (Nat.le_of_lt hgw) _).trans hT9⟩
      case measure => simp [intOf]; omega
    · have hji : ¬ (j : Int) < (ts.length : Int) := by omega
      have hjl : Hid (j = ts.length) := show j = ts.length by omega
      have k0 := (hBx.cell 0).trans (show _ = some (.slice tA ts.length tc) from rfl)
      have k1 := (hBx.cell 1).trans (show _ = some (.bool x2) from rfl)
      have k2 := (hBx.cell 2).trans (show _ = some (.string (bs x3)) from rfl)
      have k3 := (hBx.cell 3).trans (show _ = some (.string (bs x4)) from rfl)
      go_wp2_with fail
      all_goals
        refine (need_any _ _ g _ hW).mono ?_
        rintro e w9 ⟨rfl, hW9, hT9⟩
        go_wp2_with fail
        go_end0
        exact ⟨rfl, hW9.eq (by rw [hE.out, hK.out, ← hjl.out]; congr 1; first | grind [emp] | (cases x2 <;> cases x3 <;> cases x4 <;> simp_all [emp])), hT.trans hT9⟩
set_option maxRecDepth 100000 in
set_option maxHeartbeats 1000000 in
theorem wsight_any (x : SightD) (B : Nat) (w : World) (g : Nat) (S : Out) (h : Wrt w g S) (hl : S.b.length + 40 * sightM x ≤ 58999999990000) (hx : x.held w B) (hB : B ≤ g) :
    Calls Try.prog 182 #[.pointer (some ⟨g, 0, none⟩), x.val] w fun e w' => e = .returned (.tuple #[]) ∧ Wrt w' g (S.sight x) ∧ Turned w w' g := by
  have hgt := h.lt
  have hE : Hid (S.sight x = ((S.header x.header).cert x.cert).bench x.seats) := rfl
  obtain ⟨⟨h1, h2, h3, h4, h5, h6, h7, h8, h9⟩, ⟨c1, c2, c3, c4, c5, c6, c6a, c6c⟩, ss, sA, sc⟩ := x
  simp only [sightM, headerM] at hl
  dsimp only [SightD.val]
  obtain ⟨hxh, hxc, hxr, hxs⟩ := hx
  dsimp only at hxh hxc hxr hxs
  go_enter Try.func182, Try.ntmps182
  go_wp2_with fail
  refine (wheader_any ⟨h1, h2, h3, h4, h5, h6, h7, h8, h9⟩ hxh _ g _ (h.alloc _) (by omega)).mono ?_
  rintro e w1 ⟨rfl, hW1, hC1⟩
  have hB1 := hC1.blk (Blk.new _ _ _) (by omega) (by decide)
  have hT1 := ((Turned.refl w g).alloc (by omega) _).trans hC1
  have hlt1 := hB1.lt
  have hgl1 := hW1.lt
  have ll1 := S.header_len ⟨h1, h2, h3, h4, h5, h6, h7, h8, h9⟩
  generalize S.header ⟨h1, h2, h3, h4, h5, h6, h7, h8, h9⟩ = S1 at *
  have c1_0 := (hB1.cell 0).trans (show _ = some (.int .i64 h1) from rfl)
  have c1_1 := (hB1.cell 1).trans (show _ = some (.int .i64 h2) from rfl)
  have c1_2 := (hB1.cell 2).trans (show _ = some (.int .u64 h3) from rfl)
  have c1_3 := (hB1.cell 3).trans (show _ = some (.int .u64 h4) from rfl)
  have c1_4 := (hB1.cell 4).trans (show _ = some (.int .u64 h5) from rfl)
  have c1_5 := (hB1.cell 5).trans (show _ = some (.int .u64 h6) from rfl)
  have c1_6 := (hB1.cell 6).trans (show _ = some (.int .u64 h7) from rfl)
  have c1_7 := (hB1.cell 7).trans (show _ = some (.int .u64 h8) from rfl)
  have c1_8 := (hB1.cell 8).trans (show _ = some (.int .i64 h9) from rfl)
  have c1_9 := (hB1.cell 9).trans (show _ = some (.int .i64 c1) from rfl)
  have c1_10 := (hB1.cell 10).trans (show _ = some (.int .i64 c2) from rfl)
  have c1_11 := (hB1.cell 11).trans (show _ = some (.int .i64 c3) from rfl)
  have c1_12 := (hB1.cell 12).trans (show _ = some (.bool c4) from rfl)
  have c1_13 := (hB1.cell 13).trans (show _ = some (.int .u64 c5) from rfl)
  have c1_14 := (hB1.cell 14).trans (show _ = some (.slice c6a c6.length c6c) from rfl)
  have c1_15 := (hB1.cell 15).trans (show _ = some (.slice sA ss.length sc) from rfl)
  go_wp2_with fail
  refine (wcert_any ⟨c1, c2, c3, c4, c5, c6, c6a, c6c⟩ B _ g _ hW1 (by omega) (hxc.below (hT1.low.mono hB)) hB).mono ?_
  rintro e w2 ⟨rfl, hW2, hC2⟩
  have hB2 := hC2.blk hB1 (by omega) (by decide)
  have hT2 := hT1.trans hC2
  have hlt2 := hB2.lt
  have hgl2 := hW2.lt
  have ll2 := S1.cert_len ⟨c1, c2, c3, c4, c5, c6, c6a, c6c⟩
  generalize S1.cert ⟨c1, c2, c3, c4, c5, c6, c6a, c6c⟩ = S2 at *
  have c2_0 := (hB2.cell 0).trans (show _ = some (.int .i64 h1) from rfl)
  have c2_1 := (hB2.cell 1).trans (show _ = some (.int .i64 h2) from rfl)
  have c2_2 := (hB2.cell 2).trans (show _ = some (.int .u64 h3) from rfl)
  have c2_3 := (hB2.cell 3).trans (show _ = some (.int .u64 h4) from rfl)
  have c2_4 := (hB2.cell 4).trans (show _ = some (.int .u64 h5) from rfl)
  have c2_5 := (hB2.cell 5).trans (show _ = some (.int .u64 h6) from rfl)
  have c2_6 := (hB2.cell 6).trans (show _ = some (.int .u64 h7) from rfl)
  have c2_7 := (hB2.cell 7).trans (show _ = some (.int .u64 h8) from rfl)
  have c2_8 := (hB2.cell 8).trans (show _ = some (.int .i64 h9) from rfl)
  have c2_9 := (hB2.cell 9).trans (show _ = some (.int .i64 c1) from rfl)
  have c2_10 := (hB2.cell 10).trans (show _ = some (.int .i64 c2) from rfl)
  have c2_11 := (hB2.cell 11).trans (show _ = some (.int .i64 c3) from rfl)
  have c2_12 := (hB2.cell 12).trans (show _ = some (.bool c4) from rfl)
  have c2_13 := (hB2.cell 13).trans (show _ = some (.int .u64 c5) from rfl)
  have c2_14 := (hB2.cell 14).trans (show _ = some (.slice c6a c6.length c6c) from rfl)
  have c2_15 := (hB2.cell 15).trans (show _ = some (.slice sA ss.length sc) from rfl)
  go_wp2_with fail
  refine (wbench_any ss sA sc B _ g _ hW2 (hT2.rd hxr hB) hB (by omega) hxs).mono ?_
  rintro e w3 ⟨rfl, hW3, hC3⟩
  have hB3 := hC3.blk hB2 (by omega) (by decide)
  have hT3 := hT2.trans hC3
  have hlt3 := hB3.lt
  have hgl3 := hW3.lt
  generalize S2.bench ss = S3 at *
  go_wp2_with fail
  go_end0
  exact ⟨rfl, Wrt.eq hW3 (by rw [hE.out] <;> rfl), hT3⟩
end Go.Proofs.Ytjjkdmngmopjbaa

namespace Go.Proofs.Ytjjkdmngmopjbaa
open Go.RowKit
set_option maxRecDepth 100000 in
set_option maxHeartbeats 1000000 in
theorem rheader_any (x : HeaderD) (hx : x.ok) (w : World) (g : Nat) (S : Out) (h : Ref w g S) (hl : S.b.length + 2000 ≤ 70368744177000) :
    Calls Try.prog 118 #[.pointer (some ⟨g, 0, none⟩), x.val] w fun e w' => e = .returned (.tuple #[]) ∧ Ref w' g (S.header x) ∧ Turned w w' g := by
  have hgt := h.lt
  have hE : Hid (S.header x = (((((((((S.num x.c).num x.h).dig x.p).dig x.t).dig x.g).dig x.s).dig x.r).dig x.b).num x.o)) := rfl
  obtain ⟨x1, x2, x3, x4, x5, x6, x7, x8, x9⟩ := x
  obtain ⟨⟨p0, p1⟩, ⟨t0, t1⟩, ⟨g0, g1⟩, ⟨s0, s1⟩, ⟨r0, r1⟩, ⟨b0, b1⟩⟩ := hx
  dsimp only at p0 p1 t0 t1 g0 g1 s0 s1 r0 r1 b0 b1
  dsimp only [HeaderD.val]
  go_enter Try.func118, Try.ntmps118
  go_wp2_with fail
  refine (rnumber_any _ _ g _ (h.alloc _) (by omega)).mono ?_
  rintro e w1 ⟨rfl, hW1, hC1⟩
  have hB1 := hC1.blk (Blk.new _ _ _) (by omega) (by decide)
  have hT1 := ((Turned.refl w g).alloc (by omega) _).trans hC1
  have hlt1 := hB1.lt
  have hgl1 := hW1.lt
  have ll1 := S.num_len x1
  generalize S.num x1 = S1 at *
  have c1_0 := (hB1.cell 0).trans (show _ = some (.int .i64 x1) from rfl)
  have c1_1 := (hB1.cell 1).trans (show _ = some (.int .i64 x2) from rfl)
  have c1_2 := (hB1.cell 2).trans (show _ = some (.int .u64 x3) from rfl)
  have c1_3 := (hB1.cell 3).trans (show _ = some (.int .u64 x4) from rfl)
  have c1_4 := (hB1.cell 4).trans (show _ = some (.int .u64 x5) from rfl)
  have c1_5 := (hB1.cell 5).trans (show _ = some (.int .u64 x6) from rfl)
  have c1_6 := (hB1.cell 6).trans (show _ = some (.int .u64 x7) from rfl)
  have c1_7 := (hB1.cell 7).trans (show _ = some (.int .u64 x8) from rfl)
  have c1_8 := (hB1.cell 8).trans (show _ = some (.int .i64 x9) from rfl)
  go_wp2_with fail
  refine (rnumber_any _ _ g _ hW1 (by omega)).mono ?_
  rintro e w2 ⟨rfl, hW2, hC2⟩
  have hB2 := hC2.blk hB1 (by omega) (by decide)
  have hT2 := hT1.trans hC2
  have hlt2 := hB2.lt
  have hgl2 := hW2.lt
  have ll2 := S1.num_len x2
  generalize S1.num x2 = S2 at *
  have c2_0 := (hB2.cell 0).trans (show _ = some (.int .i64 x1) from rfl)
  have c2_1 := (hB2.cell 1).trans (show _ = some (.int .i64 x2) from rfl)
  have c2_2 := (hB2.cell 2).trans (show _ = some (.int .u64 x3) from rfl)
  have c2_3 := (hB2.cell 3).trans (show _ = some (.int .u64 x4) from rfl)
  have c2_4 := (hB2.cell 4).trans (show _ = some (.int .u64 x5) from rfl)
  have c2_5 := (hB2.cell 5).trans (show _ = some (.int .u64 x6) from rfl)
  have c2_6 := (hB2.cell 6).trans (show _ = some (.int .u64 x7) from rfl)
  have c2_7 := (hB2.cell 7).trans (show _ = some (.int .u64 x8) from rfl)
  have c2_8 := (hB2.cell 8).trans (show _ = some (.int .i64 x9) from rfl)
  go_wp2_with fail
  refine (rdigest_any _ _ g _ hW2 (by omega) (by omega) (by omega)).mono ?_
  rintro e w3 ⟨rfl, hW3, hC3⟩
  have hB3 := hC3.blk hB2 (by omega) (by decide)
  have hT3 := hT2.trans hC3
  have hlt3 := hB3.lt
  have hgl3 := hW3.lt
  have ll3 := (by simp [Out.dig, be_len] : (S2.dig x3).b.length ≤ S2.b.length + 8)
  generalize S2.dig x3 = S3 at *
  have c3_0 := (hB3.cell 0).trans (show _ = some (.int .i64 x1) from rfl)
  have c3_1 := (hB3.cell 1).trans (show _ = some (.int .i64 x2) from rfl)
  have c3_2 := (hB3.cell 2).trans (show _ = some (.int .u64 x3) from rfl)
  have c3_3 := (hB3.cell 3).trans (show _ = some (.int .u64 x4) from rfl)
  have c3_4 := (hB3.cell 4).trans (show _ = some (.int .u64 x5) from rfl)
  have c3_5 := (hB3.cell 5).trans (show _ = some (.int .u64 x6) from rfl)
  have c3_6 := (hB3.cell 6).trans (show _ = some (.int .u64 x7) from rfl)
  have c3_7 := (hB3.cell 7).trans (show _ = some (.int .u64 x8) from rfl)
  have c3_8 := (hB3.cell 8).trans (show _ = some (.int .i64 x9) from rfl)
  go_wp2_with fail
  refine (rdigest_any _ _ g _ hW3 (by omega) (by omega) (by omega)).mono ?_
  rintro e w4 ⟨rfl, hW4, hC4⟩
  have hB4 := hC4.blk hB3 (by omega) (by decide)
  have hT4 := hT3.trans hC4
  have hlt4 := hB4.lt
  have hgl4 := hW4.lt
  have ll4 := (by simp [Out.dig, be_len] : (S3.dig x4).b.length ≤ S3.b.length + 8)
  generalize S3.dig x4 = S4 at *
  have c4_0 := (hB4.cell 0).trans (show _ = some (.int .i64 x1) from rfl)
  have c4_1 := (hB4.cell 1).trans (show _ = some (.int .i64 x2) from rfl)
  have c4_2 := (hB4.cell 2).trans (show _ = some (.int .u64 x3) from rfl)
  have c4_3 := (hB4.cell 3).trans (show _ = some (.int .u64 x4) from rfl)
  have c4_4 := (hB4.cell 4).trans (show _ = some (.int .u64 x5) from rfl)
  have c4_5 := (hB4.cell 5).trans (show _ = some (.int .u64 x6) from rfl)
  have c4_6 := (hB4.cell 6).trans (show _ = some (.int .u64 x7) from rfl)
  have c4_7 := (hB4.cell 7).trans (show _ = some (.int .u64 x8) from rfl)
  have c4_8 := (hB4.cell 8).trans (show _ = some (.int .i64 x9) from rfl)
  go_wp2_with fail
  refine (rdigest_any _ _ g _ hW4 (by omega) (by omega) (by omega)).mono ?_
  rintro e w5 ⟨rfl, hW5, hC5⟩
  have hB5 := hC5.blk hB4 (by omega) (by decide)
  have hT5 := hT4.trans hC5
  have hlt5 := hB5.lt
  have hgl5 := hW5.lt
  have ll5 := (by simp [Out.dig, be_len] : (S4.dig x5).b.length ≤ S4.b.length + 8)
  generalize S4.dig x5 = S5 at *
  have c5_0 := (hB5.cell 0).trans (show _ = some (.int .i64 x1) from rfl)
  have c5_1 := (hB5.cell 1).trans (show _ = some (.int .i64 x2) from rfl)
  have c5_2 := (hB5.cell 2).trans (show _ = some (.int .u64 x3) from rfl)
  have c5_3 := (hB5.cell 3).trans (show _ = some (.int .u64 x4) from rfl)
  have c5_4 := (hB5.cell 4).trans (show _ = some (.int .u64 x5) from rfl)
  have c5_5 := (hB5.cell 5).trans (show _ = some (.int .u64 x6) from rfl)
  have c5_6 := (hB5.cell 6).trans (show _ = some (.int .u64 x7) from rfl)
  have c5_7 := (hB5.cell 7).trans (show _ = some (.int .u64 x8) from rfl)
  have c5_8 := (hB5.cell 8).trans (show _ = some (.int .i64 x9) from rfl)
  go_wp2_with fail
  refine (rdigest_any _ _ g _ hW5 (by omega) (by omega) (by omega)).mono ?_
  rintro e w6 ⟨rfl, hW6, hC6⟩
  have hB6 := hC6.blk hB5 (by omega) (by decide)
  have hT6 := hT5.trans hC6
  have hlt6 := hB6.lt
  have hgl6 := hW6.lt
  have ll6 := (by simp [Out.dig, be_len] : (S5.dig x6).b.length ≤ S5.b.length + 8)
  generalize S5.dig x6 = S6 at *
  have c6_0 := (hB6.cell 0).trans (show _ = some (.int .i64 x1) from rfl)
  have c6_1 := (hB6.cell 1).trans (show _ = some (.int .i64 x2) from rfl)
  have c6_2 := (hB6.cell 2).trans (show _ = some (.int .u64 x3) from rfl)
  have c6_3 := (hB6.cell 3).trans (show _ = some (.int .u64 x4) from rfl)
  have c6_4 := (hB6.cell 4).trans (show _ = some (.int .u64 x5) from rfl)
  have c6_5 := (hB6.cell 5).trans (show _ = some (.int .u64 x6) from rfl)
  have c6_6 := (hB6.cell 6).trans (show _ = some (.int .u64 x7) from rfl)
  have c6_7 := (hB6.cell 7).trans (show _ = some (.int .u64 x8) from rfl)
  have c6_8 := (hB6.cell 8).trans (show _ = some (.int .i64 x9) from rfl)
  go_wp2_with fail
  refine (rdigest_any _ _ g _ hW6 (by omega) (by omega) (by omega)).mono ?_
  rintro e w7 ⟨rfl, hW7, hC7⟩
  have hB7 := hC7.blk hB6 (by omega) (by decide)
  have hT7 := hT6.trans hC7
  have hlt7 := hB7.lt
  have hgl7 := hW7.lt
  have ll7 := (by simp [Out.dig, be_len] : (S6.dig x7).b.length ≤ S6.b.length + 8)
  generalize S6.dig x7 = S7 at *
  have c7_0 := (hB7.cell 0).trans (show _ = some (.int .i64 x1) from rfl)
  have c7_1 := (hB7.cell 1).trans (show _ = some (.int .i64 x2) from rfl)
  have c7_2 := (hB7.cell 2).trans (show _ = some (.int .u64 x3) from rfl)
  have c7_3 := (hB7.cell 3).trans (show _ = some (.int .u64 x4) from rfl)
  have c7_4 := (hB7.cell 4).trans (show _ = some (.int .u64 x5) from rfl)
  have c7_5 := (hB7.cell 5).trans (show _ = some (.int .u64 x6) from rfl)
  have c7_6 := (hB7.cell 6).trans (show _ = some (.int .u64 x7) from rfl)
  have c7_7 := (hB7.cell 7).trans (show _ = some (.int .u64 x8) from rfl)
  have c7_8 := (hB7.cell 8).trans (show _ = some (.int .i64 x9) from rfl)
  go_wp2_with fail
  refine (rdigest_any _ _ g _ hW7 (by omega) (by omega) (by omega)).mono ?_
  rintro e w8 ⟨rfl, hW8, hC8⟩
  have hB8 := hC8.blk hB7 (by omega) (by decide)
  have hT8 := hT7.trans hC8
  have hlt8 := hB8.lt
  have hgl8 := hW8.lt
  have ll8 := (by simp [Out.dig, be_len] : (S7.dig x8).b.length ≤ S7.b.length + 8)
  generalize S7.dig x8 = S8 at *
  have c8_0 := (hB8.cell 0).trans (show _ = some (.int .i64 x1) from rfl)
  have c8_1 := (hB8.cell 1).trans (show _ = some (.int .i64 x2) from rfl)
  have c8_2 := (hB8.cell 2).trans (show _ = some (.int .u64 x3) from rfl)
  have c8_3 := (hB8.cell 3).trans (show _ = some (.int .u64 x4) from rfl)
  have c8_4 := (hB8.cell 4).trans (show _ = some (.int .u64 x5) from rfl)
  have c8_5 := (hB8.cell 5).trans (show _ = some (.int .u64 x6) from rfl)
  have c8_6 := (hB8.cell 6).trans (show _ = some (.int .u64 x7) from rfl)
  have c8_7 := (hB8.cell 7).trans (show _ = some (.int .u64 x8) from rfl)
  have c8_8 := (hB8.cell 8).trans (show _ = some (.int .i64 x9) from rfl)
  go_wp2_with fail
  refine (rnumber_any _ _ g _ hW8 (by omega)).mono ?_
  rintro e w9 ⟨rfl, hW9, hC9⟩
  have hB9 := hC9.blk hB8 (by omega) (by decide)
  have hT9 := hT8.trans hC9
  have hlt9 := hB9.lt
  have hgl9 := hW9.lt
  have ll9 := S8.num_len x9
  generalize S8.num x9 = S9 at *
  go_wp2_with fail
  go_end0
  exact ⟨rfl, Ref.eq hW9 (by rw [hE.out] <;> rfl), hT9⟩
def rfromOk (l : List Int) (k : Nat) : Bool := !(decide (l.getD k 0 < 1) || (decide (0 < k) && decide (l.getD k 0 ≤ l.getD (k - 1) 0)))
theorem Out.nums_far (l : List Int) (S : Out) (h : (l.foldl Out.num S).far = false) : S.far = false ∧ ∀ n ∈ l, 0 ≤ n := by
  induction l generalizing S with
  | nil => exact ⟨h, by simp⟩
  | cons x l ih =>
    rw [List.foldl_cons] at h
    obtain ⟨h1, h2⟩ := ih _ h
    have h3 : (S.far || farN x) = false := h1
    simp only [Bool.or_eq_false_iff] at h3
    have h4 := h3.2
    simp [farN] at h4
    exact ⟨h3.1, fun s hs => by
      rcases List.mem_cons.1 hs with rfl | hs
      · exact h4.1
      · exact h2 s hs⟩
theorem from_oks (l : List Int) (h : ∀ s ∈ l, 0 ≤ s) : allTo (rfromOk l) l.length = allTo (fromOk l) l.length := by
  refine allTo_congr _ _ _ fun k hk => ?_
  have h1 := h l[k] (List.getElem_mem hk)
  unfold rfromOk fromOk prevI
  rcases Nat.eq_zero_or_pos k with h0 | h0
  · subst h0
    simp [List.getElem?_eq_getElem hk]
    grind
  · have h2 := h l[k - 1] (List.getElem_mem (by omega))
    simp [List.getElem?_eq_getElem hk, List.getElem?_eq_getElem (show k - 1 < l.length by omega), show ¬ k = 0 by omega, h0]
    grind
theorem Out.cert_eq {w : World} {g : Nat} {S : Out} (x : CertD) (h : Ref w g ((((x.froms.foldl Out.num ((((((((S.num x.h).num x.r).num x.s).flag x.has).dig x.b).lim x.froms.length 7).num x.froms.length)))).need (certOk x)).need (allTo (rfromOk x.froms) x.froms.length))) : Ref w g (S.cert x) :=
  h.ifNear rfl (Nat.le_refl _) fun hf => ⟨rfl, by
    have := (Out.nums_far x.froms _ hf).2
    show (_ || _) = (_ || _)
    rw [from_oks x.froms this]
    rfl⟩
set_option maxRecDepth 100000 in
set_option maxHeartbeats 2000000 in
theorem rcert_any (x : CertD) (B : Nat) (w : World) (g : Nat) (S : Out) (h : Ref w g S) (hl : S.b.length + 40 * certM x ≤ 59000000000000) (hx : x.held w B) (hB : B ≤ g) :
    Calls Try.prog 128 #[.pointer (some ⟨g, 0, none⟩), x.val] w fun e w' => e = .returned (.tuple #[]) ∧ Ref w' g (S.cert x) ∧ Turned w w' g := by
  have hgt := h.lt
  simp only [certM] at hl
  obtain ⟨x1, x2, x3, x4, x5, x6, x6a, x6c⟩ := x
  dsimp only at hl hx
  have hEQ := fun w' => @Out.cert_eq w' g S ⟨x1, x2, x3, x4, x5, x6, x6a, x6c⟩
  dsimp only at hEQ
  have HEQ := Lib.hid hEQ
  clear hEQ
  have hLL : ∀ S' : Out, (S'.lim x6.length 7).b.length = S'.b.length := fun _ => rfl
  dsimp only [CertD.val]
  obtain ⟨⟨hx0, hx1⟩, hxr, hxs⟩ := hx
  dsimp only at hx0 hx1 hxr hxs
  have hmm := hxs
  unfold maxLen at hmm
  go_enter Try.func128, Try.ntmps128
  go_wp2_with fail
  generalize Value.agg #[.int .i64 x1, .int .i64 x2, .int .i64 x3, .bool x4, .int .u64 x5, .slice x6a x6.length x6c] = V
  refine (rnumber_any _ _ g _ (h.alloc _) (by omega)).mono ?_
  rintro e w1 ⟨rfl, hW1, hC1⟩
  have hB1 := hC1.blk (Blk.new _ _ _) (by omega) (by decide)
  have hT1 := ((Turned.refl w g).alloc (by omega) _).trans hC1
  have hlt1 := hB1.lt
  have hgl1 := hW1.lt
  have ll1 := S.num_len x1
  generalize S.num x1 = S1 at *
  have c1_0 := (hB1.cell 0).trans (show _ = some (.int .i64 x1) from rfl)
  have c1_1 := (hB1.cell 1).trans (show _ = some (.int .i64 x2) from rfl)
  have c1_2 := (hB1.cell 2).trans (show _ = some (.int .i64 x3) from rfl)
  have c1_3 := (hB1.cell 3).trans (show _ = some (.bool x4) from rfl)
  have c1_4 := (hB1.cell 4).trans (show _ = some (.int .u64 x5) from rfl)
  have c1_5 := (hB1.cell 5).trans (show _ = some (.slice x6a x6.length x6c) from rfl)
  go_wp2_with fail
  refine (rnumber_any _ _ g _ hW1 (by omega)).mono ?_
  rintro e w2 ⟨rfl, hW2, hC2⟩
  have hB2 := hC2.blk hB1 (by omega) (by decide)
  have hT2 := hT1.trans hC2
  have hlt2 := hB2.lt
  have hgl2 := hW2.lt
  have ll2 := S1.num_len x2
  generalize S1.num x2 = S2 at *
  have c2_0 := (hB2.cell 0).trans (show _ = some (.int .i64 x1) from rfl)
  have c2_1 := (hB2.cell 1).trans (show _ = some (.int .i64 x2) from rfl)
  have c2_2 := (hB2.cell 2).trans (show _ = some (.int .i64 x3) from rfl)
  have c2_3 := (hB2.cell 3).trans (show _ = some (.bool x4) from rfl)
  have c2_4 := (hB2.cell 4).trans (show _ = some (.int .u64 x5) from rfl)
  have c2_5 := (hB2.cell 5).trans (show _ = some (.slice x6a x6.length x6c) from rfl)
  go_wp2_with fail
  refine (rnumber_any _ _ g _ hW2 (by omega)).mono ?_
  rintro e w3 ⟨rfl, hW3, hC3⟩
  have hB3 := hC3.blk hB2 (by omega) (by decide)
  have hT3 := hT2.trans hC3
  have hlt3 := hB3.lt
  have hgl3 := hW3.lt
  have ll3 := S2.num_len x3
  generalize S2.num x3 = S3 at *
  have c3_0 := (hB3.cell 0).trans (show _ = some (.int .i64 x1) from rfl)
  have c3_1 := (hB3.cell 1).trans (show _ = some (.int .i64 x2) from rfl)
  have c3_2 := (hB3.cell 2).trans (show _ = some (.int .i64 x3) from rfl)
  have c3_3 := (hB3.cell 3).trans (show _ = some (.bool x4) from rfl)
  have c3_4 := (hB3.cell 4).trans (show _ = some (.int .u64 x5) from rfl)
  have c3_5 := (hB3.cell 5).trans (show _ = some (.slice x6a x6.length x6c) from rfl)
  go_wp2_with fail
  refine (rflag_any _ _ g _ hW3 (by omega)).mono ?_
  rintro e w4 ⟨rfl, hW4, hC4⟩
  have hB4 := hC4.blk hB3 (by omega) (by decide)
  have hT4 := hT3.trans hC4
  have hlt4 := hB4.lt
  have hgl4 := hW4.lt
  have ll4 := (by simp [Out.flag] : (S3.flag x4).b.length ≤ S3.b.length + 1)
  generalize S3.flag x4 = S4 at *
  have c4_0 := (hB4.cell 0).trans (show _ = some (.int .i64 x1) from rfl)
  have c4_1 := (hB4.cell 1).trans (show _ = some (.int .i64 x2) from rfl)
  have c4_2 := (hB4.cell 2).trans (show _ = some (.int .i64 x3) from rfl)
  have c4_3 := (hB4.cell 3).trans (show _ = some (.bool x4) from rfl)
  have c4_4 := (hB4.cell 4).trans (show _ = some (.int .u64 x5) from rfl)
  have c4_5 := (hB4.cell 5).trans (show _ = some (.slice x6a x6.length x6c) from rfl)
  go_wp2_with fail
  refine (rdigest_any _ _ g _ hW4 (by omega) (by omega) (by omega)).mono ?_
  rintro e w5 ⟨rfl, hW5, hC5⟩
  have hB5 := hC5.blk hB4 (by omega) (by decide)
  have hT5 := hT4.trans hC5
  have hlt5 := hB5.lt
  have hgl5 := hW5.lt
  have ll5 := (by simp [Out.dig, be_len] : (S4.dig x5).b.length ≤ S4.b.length + 8)
  generalize S4.dig x5 = S5 at *
  have c5_0 := (hB5.cell 0).trans (show _ = some (.int .i64 x1) from rfl)
  have c5_1 := (hB5.cell 1).trans (show _ = some (.int .i64 x2) from rfl)
  have c5_2 := (hB5.cell 2).trans (show _ = some (.int .i64 x3) from rfl)
  have c5_3 := (hB5.cell 3).trans (show _ = some (.bool x4) from rfl)
  have c5_4 := (hB5.cell 4).trans (show _ = some (.int .u64 x5) from rfl)
  have c5_5 := (hB5.cell 5).trans (show _ = some (.slice x6a x6.length x6c) from rfl)
  have hsw : sumL numW x6 = 6 * x6.length := sumL_const 6 x6
  go_wp2_with fail
  refine (rcount_any _ _ _ g _ hW5 (by omega)).mono ?_
  rintro e w6 ⟨rfl, hW6, hC6⟩
  have hB6 := hC6.blk hB5 (by omega) (by decide)
  have hT6 := hT5.trans hC6
  have hlt6 := hB6.lt
  have hgl6 := hW6.lt
  have ll6 := (S5.lim x6.length 7).num_len x6.length
  have hb5 : (S5.lim x6.length 7).b.length = S5.b.length := rfl
  generalize (S5.lim x6.length 7).num x6.length = S6 at *
  have c6_0 := (hB6.cell 0).trans (show _ = some (.int .i64 x1) from rfl)
  have c6_1 := (hB6.cell 1).trans (show _ = some (.int .i64 x2) from rfl)
  have c6_2 := (hB6.cell 2).trans (show _ = some (.int .i64 x3) from rfl)
  have c6_3 := (hB6.cell 3).trans (show _ = some (.bool x4) from rfl)
  have c6_4 := (hB6.cell 4).trans (show _ = some (.int .u64 x5) from rfl)
  have c6_5 := (hB6.cell 5).trans (show _ = some (.slice x6a x6.length x6c) from rfl)
  go_upto_region 7 with fail
  go_cut [39] (fun x wc => x = .tuple #[] ∧ Ref wc g (S6.need (!(!decide (x3 = 1) && !decide (x3 = 2)))) ∧ Blk wc w.heap.size 37 #[.int .i64 x1, .int .i64 x2, .int .i64 x3, .bool x4, .int .u64 x5, .slice x6a x6.length x6c] ∧ Turned w wc g)
  case first =>
    go_wp2_with fail
    all_goals
      refine (rneed_any _ _ g _ hW6).mono ?_
      rintro e w7 ⟨rfl, hW7, hC7⟩
      go_wp2_with fail
      go_meet
      exact ⟨rfl, hW7.eq (by congr 1; first | rfl | grind | grind [emp]), hC7.blk hB6 (by omega) (by decide), hT6.trans hC7⟩
  case rest =>
    obtain ⟨w7, rfl⟩ : ∃ x : World, x = wc := ⟨_, rfl⟩
    obtain ⟨rfl, hW7, hB7, hT7⟩ := hcut
    have hlt7 := hB7.lt
    have hgl7 := hW7.lt
    have ll7 : (S6.need (!(!decide (x3 = 1) && !decide (x3 = 2)))).b.length = S6.b.length := rfl
    generalize hS7 : S6.need (!(!decide (x3 = 1) && !decide (x3 = 2))) = S7 at *
    have HS7 := Lib.hid hS7
    clear hS7
    have c7_0 := (hB7.cell 0).trans (show _ = some (.int .i64 x1) from rfl)
    have c7_1 := (hB7.cell 1).trans (show _ = some (.int .i64 x2) from rfl)
    have c7_2 := (hB7.cell 2).trans (show _ = some (.int .i64 x3) from rfl)
    have c7_3 := (hB7.cell 3).trans (show _ = some (.bool x4) from rfl)
    have c7_4 := (hB7.cell 4).trans (show _ = some (.int .u64 x5) from rfl)
    have c7_5 := (hB7.cell 5).trans (show _ = some (.slice x6a x6.length x6c) from rfl)
    go_upto_region 8 with fail
    go_cut [49] (fun x wc => x = .tuple #[] ∧ Ref wc g (S7.need (!(!x4 && !decide (x5 = 0)))) ∧ Blk wc w.heap.size 37 #[.int .i64 x1, .int .i64 x2, .int .i64 x3, .bool x4, .int .u64 x5, .slice x6a x6.length x6c] ∧ Turned w wc g)
    case first =>
      go_wp2_with fail
      all_goals
        refine (rneed_any _ _ g _ hW7).mono ?_
        rintro e w8 ⟨rfl, hW8, hC8⟩
        go_wp2_with fail
        go_meet
        exact ⟨rfl, hW8.eq (by congr 1; first | rfl | grind | grind [emp]), hC8.blk hB7 (by omega) (by decide), hT7.trans hC8⟩
    case rest =>
      obtain ⟨w8, rfl⟩ : ∃ x : World, x = wc := ⟨_, rfl⟩
      obtain ⟨rfl, hW8, hB8, hT8⟩ := hcut
      have hlt8 := hB8.lt
      have hgl8 := hW8.lt
      have ll8 : (S7.need (!(!x4 && !decide (x5 = 0)))).b.length = S7.b.length := rfl
      generalize hS8 : S7.need (!(!x4 && !decide (x5 = 0))) = S8 at *
      have HS8 := Lib.hid hS8
      clear hS8
      have c8_0 := (hB8.cell 0).trans (show _ = some (.int .i64 x1) from rfl)
      have c8_1 := (hB8.cell 1).trans (show _ = some (.int .i64 x2) from rfl)
      have c8_2 := (hB8.cell 2).trans (show _ = some (.int .i64 x3) from rfl)
      have c8_3 := (hB8.cell 3).trans (show _ = some (.bool x4) from rfl)
      have c8_4 := (hB8.cell 4).trans (show _ = some (.int .u64 x5) from rfl)
      have c8_5 := (hB8.cell 5).trans (show _ = some (.slice x6a x6.length x6c) from rfl)
      have HS67 : Hid (S8 = S6.need (certOk ⟨x1, x2, x3, x4, x5, x6, x6a, x6c⟩)) := by
        show S8 = _
        rw [← HS8.out, ← HS7.out, Out.need_need]
        congr 1
        simp only [certOk]
        cases x4 <;> simp
      go_wp2_with fail
      go_loopw [4] (fun i wr => ∃ j : Nat, i = .int .i64 (j : Int) ∧ j ≤ x6.length ∧ Ref wr g ((((x6.take j).foldl Out.num S6).need (certOk ⟨x1, x2, x3, x4, x5, x6, x6a, x6c⟩)).need (allTo (rfromOk x6) j)) ∧ Blk wr w.heap.size 37 #[.int .i64 x1, .int .i64 x2, .int .i64 x3, .bool x4, .int .u64 x5, .slice x6a x6.length x6c] ∧ Turned w wr g) (fun i _ => x6.length - (intOf i).toNat)
      case atStart => exact ⟨0, rfl, by omega, by rw [show allTo (rfromOk x6) 0 = true from rfl, Out.need_true]; exact hW8.eq HS67.out, hB8, hT8⟩
      case round =>
        obtain ⟨j, rfl, hj, hW, hBx, hT⟩ := hrel
        have hgw := hW.lt
        have k5 := (hBx.cell 5).trans (show _ = some (.slice x6a x6.length x6c) from rfl)
        by_cases hlt : j < x6.length
        · have hji : (j : Int) < (x6.length : Int) := by omega
          obtain ⟨b, off, rfl, hbB, d0⟩ := Ints.at_ (hT.rd hxr hB) hlt
          have hlow := hT.rd hxr hB
          have HSn := Lib.hid (fold_take Out.num S6 x6 j hlt)
          have hle := fold_len Out.num numW Out.num_lenW (x6.take j) S6
          have hle2 := sumL_take numW x6 j hlt
          have hs : Hid (rfromOk x6 j = !(decide (x6[j] < 1) || (decide (0 < j) && decide (x6[j] ≤ x6.getD (j - 1) 0)))) := by show _ = _; simp [rfromOk, List.getElem?_eq_getElem hlt]
          have hs2 : Hid (allTo (rfromOk x6) (j + 1) = (allTo (rfromOk x6) j && rfromOk x6 j)) := rfl
          generalize hy : x6[j] = y at *
          clear hy
          generalize (x6.take j).foldl Out.num S6 = SF at *
          generalize allTo (rfromOk x6) j = ok at *
          generalize certOk ⟨x1, x2, x3, x4, x5, x6, some ⟨b, off, none⟩, x6c⟩ = ck at *
          have hbn : ((SF.need ck).need ok).b.length = SF.b.length := rfl
          go_wp2_with fail
          refine (rnumber_any _ _ g _ hW (by omega)).mono ?_
          rintro e w9 ⟨rfl, hW9, hC9⟩
          have hB9 := hC9.blk hBx (by omega) (by decide)
          rw [Out.need_num, Out.need_num] at hW9
          have k9 : w9.drew.cell? ⟨w.heap.size, 5, none⟩ = some (Value.slice (some ⟨b, off, none⟩) x6.length x6c) := (hB9.cell 5).trans (show _ = some (Value.slice (some ⟨b, off, none⟩) x6.length x6c) from rfl)
          have d9 : w9.drew.cell? ⟨b, off + j, none⟩ = some (.int .i64 y) := (hC9.low.cell (by simp; omega)).trans d0
          have hfin : ∀ (bad : Bool) (w5 : World), bad = (decide (y < 1) || (decide (0 < j) && decide (y ≤ x6.getD (j - 1) 0))) → Ref w5 g ((((SF.num y).need ck).need ok).need (!bad)) → Ref w5 g ((((x6.take (j + 1)).foldl Out.num S6).need ck).need (allTo (rfromOk x6) (j + 1))) := by
            intro bad w5 hbad hW5
            refine hW5.eq ?_
            rw [Out.need_need ((SF.num y).need ck), hs2.out, hs.out, HSn.out, hbad]
          have HF := Lib.hid hfin
          clear hfin hs hs2
          by_cases h1 : y < 1
          · go_wp2_with fail
            refine wp_region_tail 25 (by kernel_rfl) (by kernel_rfl) ?_
            simp only [List.take_succ_cons, List.take_zero, List.drop_succ_cons, List.drop_zero]
            repeat (go_big_quiet_step (fail))
            refine wpQuiet_nil ?_
            go_wp2_with fail
            refine (rneed_any _ _ g _ hW9.drew).mono ?_
            rintro e w10 ⟨rfl, hW10, hT10⟩
            have hB10 := hT10.blk hB9.drew (by omega) (by decide)
            go_wp2_with fail
            go_roundw
            case rel => exact ⟨j + 1, by go_num, by omega, HF.out _ _ (by grind) hW10, hB10, (hT.trans hC9).drew.trans hT10⟩
            case measure => simp [intOf]; omega
          have h1d : decide (y < 1) = false := decide_eq_false h1
          by_cases h3 : 0 < j
          · have h3i : (0 : Int) < (j : Int) := by omega
            have hj1 : j - 1 < x6.length := by omega
            obtain ⟨b', off', e', _, dp⟩ := Ints.at_ hlow hj1
            simp only [Option.some.injEq, Addr.mk.injEq, and_true] at e'
            obtain ⟨rfl, rfl⟩ := e'
            have hp : x6.getD (j - 1) 0 = x6[j - 1] := by simp [List.getElem?_eq_getElem hj1]
            have dp9 : w9.drew.cell? ⟨b, off + (j - 1), none⟩ = some (.int .i64 x6[j - 1]) := (hC9.low.cell (by simp; omega)).trans dp
            clear dp
            rw [hp] at HF
            generalize x6[j - 1] = z at *
            have hw1 : IntKind.i64.wrap ((j : Int) - 1) = ((j - 1 : Nat) : Int) := by rw [IntWalk.i64_in _ (by omega)]; omega
            have hj1i : ((j - 1 : Nat) : Int) < (x6.length : Int) := by omega
            go_wp2_with fail
            refine wp_region_tail 25 (by kernel_rfl) (by kernel_rfl) ?_
            simp only [List.take_succ_cons, List.take_zero, List.drop_succ_cons, List.drop_zero]
            repeat (go_big_quiet_step (fail))
            refine wpQuiet_nil ?_
            go_wp2_with fail
            refine (rneed_any _ _ g _ hW9.drew).mono ?_
            rintro e w10 ⟨rfl, hW10, hT10⟩
            have hB10 := hT10.blk hB9.drew (by omega) (by decide)
            go_wp2_with fail
            go_roundw
            case rel => exact ⟨j + 1, by go_num, by omega, HF.out _ _ (by grind) hW10, hB10, (hT.trans hC9).drew.trans hT10⟩
            case measure => simp [intOf]; omega
          · have h3d : decide ((0 : Int) < (j : Int)) = false := decide_eq_false (by omega)
            go_wp2_with fail
            refine wp_region_tail 25 (by kernel_rfl) (by kernel_rfl) ?_
            simp only [List.take_succ_cons, List.take_zero, List.drop_succ_cons, List.drop_zero]
            repeat (go_big_quiet_step (fail))
            refine wpQuiet_nil ?_
            go_wp2_with fail
            refine (rneed_any _ _ g _ hW9.drew).mono ?_
            rintro e w10 ⟨rfl, hW10, hT10⟩
            have hB10 := hT10.blk hB9.drew (by omega) (by decide)
            go_wp2_with fail
            go_roundw
            case rel => exact ⟨j + 1, by go_num, by omega, HF.out _ _ (by grind) hW10, hB10, (hT.trans hC9).drew.trans hT10⟩
            case measure => simp [intOf]; omega
        · have hji : ¬ (j : Int) < (x6.length : Int) := by omega
          have hjl : j = x6.length := by omega
          subst hjl
          rw [List.take_of_length_le (Nat.le_refl _)] at hW
          go_wp2_with fail
          go_end0
          exact ⟨rfl, HEQ.out _ hW, hT⟩
end Go.Proofs.Ytjjkdmngmopjbaa
