/- The program's writer: lists of numbers and turns, certs, headers. -/
import Derived.Test.YtjjkdmngmopjbaaProg
import Derived.Test.YtjjkdmngmopjbaaWr8
import Derived.Test.YtjjkdmngmopjbaaWrU
import Derived.Deep.DeepCutAuto
namespace Go.Proofs.Ytjjkdmngmopjbaa
open Go.RowKit
set_option maxRecDepth 100000 in
set_option maxHeartbeats 1000000 in
theorem putsInt_any (l : List Int) (A : Option Addr) (c B : Nat) (m : Int) (w : World) (g : Nat) (S : Out) (h : Wrt w g S) (hr : Ints w B A l) (hB : B ≤ g) (hl : S.b.length + 6 + sumL numW l ≤ 60000000000000) (hm : l.length ≤ maxLen) :
    Calls Try.prog 170 #[.pointer (some ⟨g, 0, none⟩), .slice A l.length c, .int .i64 m, .func (.func 89) #[] #[]] w fun e w' => e = .returned (.tuple #[]) ∧ Wrt w' g (S.list l m Out.num) ∧ Turned w w' g := by
  unfold maxLen at hm
  have hgt := h.lt
  have hn := ((S.lim l.length m).num_len l.length)
  have hb0 : (S.lim l.length m).b.length = S.b.length := rfl
  have hE : Hid (S.list l m Out.num = l.foldl Out.num ((S.lim l.length m).num l.length)) := rfl
  go_enter Try.func170, Try.ntmps170
  go_wp2_with fail
  refine (limited_any _ _ _ g _ h).mono ?_
  rintro e w1 ⟨rfl, hW1, hT1⟩
  go_wp2_with fail
  refine (number_any _ _ g _ hW1 (by omega)).mono ?_
  rintro e w2 ⟨rfl, hW2, hT2⟩
  have hT02 := hT1.trans hT2
  clear hT1 hT2 hW1
  generalize (S.lim l.length m).num l.length = S2 at *
  go_wp2_with fail
  go_loopw [9, 21] (fun _ i wr => ∃ j : Nat, i = .int .i64 (j : Int) ∧ j ≤ l.length ∧ Wrt wr g ((l.take j).foldl Out.num S2) ∧ Turned w wr g) (fun _ i _ => l.length - (intOf i).toNat)
  case atStart => exact ⟨0, rfl, by omega, by simpa using hW2, hT02⟩
  case round =>
    obtain ⟨j, rfl, hj, hW, hT⟩ := hrel
    have hgw := hW.lt
    by_cases hlt : j < l.length
    · have hji : (j : Int) < (l.length : Int) := by omega
      obtain ⟨b, off, rfl, hbB, hc⟩ := Ints.at_ (hT.rd hr hB) hlt
      have HS := Lib.hid (fold_take Out.num S2 l j hlt)
      have hle := fold_len Out.num numW Out.num_lenW (l.take j) S2
      have hle2 := sumL_take numW l j hlt
      generalize hxx : l[j] = x at *
      clear hxx
      have c0 : wr.cell? ⟨b, off + j, none⟩ = some (.int .i64 x) := hc
      clear hc
      go_wp2_with fail
      refine (number_any x _ g _ hW (by unfold numW at *; omega)).mono ?_
      rintro e w3 ⟨rfl, hW3, hT3⟩
      go_wp2_with fail
      go_roundw
      case rel => exact ⟨j + 1, by go_num, by omega, by rw [HS.out]; exact hW3, hT.trans hT3⟩
      case measure => simp [intOf]; omega
    · have hji : ¬ (j : Int) < (l.length : Int) := by omega
      go_wp2
      go_end0
      rw [List.take_of_length_le (by omega)] at hW
      exact ⟨rfl, by rw [hE.out]; exact hW, hT⟩
set_option maxRecDepth 100000 in
set_option maxHeartbeats 1000000 in
theorem putsTurn_any (l : List TurnD) (A : Option Addr) (c B : Nat) (m : Int) (w : World) (g : Nat) (S : Out) (h : Wrt w g S) (hr : TurnsL w B A l) (hB : B ≤ g) (hd : ∀ x ∈ l, x.ok) (hl : S.b.length + 6 + sumL turnW l ≤ 60000000000000) (hm : l.length ≤ maxLen) :
    Calls Try.prog 177 #[.pointer (some ⟨g, 0, none⟩), .slice A l.length c, .int .i64 m, .func (.func 178) #[] #[]] w fun e w' => e = .returned (.tuple #[]) ∧ Wrt w' g (S.list l m Out.turn) ∧ Turned w w' g := by
  unfold maxLen at hm
  have hgt := h.lt
  have hn := ((S.lim l.length m).num_len l.length)
  have hb0 : (S.lim l.length m).b.length = S.b.length := rfl
  have hE : Hid (S.list l m Out.turn = l.foldl Out.turn ((S.lim l.length m).num l.length)) := rfl
  go_enter Try.func177, Try.ntmps177
  go_wp2_with fail
  refine (limited_any _ _ _ g _ h).mono ?_
  rintro e w1 ⟨rfl, hW1, hT1⟩
  go_wp2_with fail
  refine (number_any _ _ g _ hW1 (by omega)).mono ?_
  rintro e w2 ⟨rfl, hW2, hT2⟩
  have hT02 := hT1.trans hT2
  clear hT1 hT2 hW1
  generalize (S.lim l.length m).num l.length = S2 at *
  go_wp2_with fail
  go_loopw [9, 21] (fun _ i wr => ∃ j : Nat, i = .int .i64 (j : Int) ∧ j ≤ l.length ∧ Wrt wr g ((l.take j).foldl Out.turn S2) ∧ Turned w wr g) (fun _ i _ => l.length - (intOf i).toNat)
  case atStart => exact ⟨0, rfl, by omega, by simpa using hW2, hT02⟩
  case round =>
    obtain ⟨j, rfl, hj, hW, hT⟩ := hrel
    have hgw := hW.lt
    by_cases hlt : j < l.length
    · have hji : (j : Int) < (l.length : Int) := by omega
      obtain ⟨b, off, rfl, hbB, hc⟩ := TurnsL.at_ (hT.rd hr hB) hlt
      have HS := Lib.hid (fold_take Out.turn S2 l j hlt)
      have hle := fold_len Out.turn turnW Out.turn_lenW (l.take j) S2
      have hle2 := sumL_take turnW l j hlt
      have hx := (hd l[j] (List.getElem_mem hlt))
      generalize hxx : l[j] = x at *
      clear hxx
      have c0 : wr.cell? ⟨b, off + j * 2, none⟩ = some (.int .i64 x.p) := hc 0 _ rfl
      have c1 : wr.cell? ⟨b, off + j * 2 + 1, none⟩ = some (.int .u64 x.d) := hc 1 _ rfl
      clear hc
      go_wp2_with fail
      refine (wturn_any x hx _ g _ (hW.alloc _) (by unfold turnW at *; omega)).mono ?_
      rintro e w3 ⟨rfl, hW3, hT3⟩
      go_wp2_with fail
      go_roundw
      case rel => exact ⟨j + 1, by go_num, by omega, by rw [HS.out]; exact hW3, (hT.alloc (Nat.le_of_lt hgw) _).trans hT3⟩
      case measure => simp [intOf]; omega
    · have hji : ¬ (j : Int) < (l.length : Int) := by omega
      go_wp2
      go_end0
      rw [List.take_of_length_le (by omega)] at hW
      exact ⟨rfl, by rw [hE.out]; exact hW, hT⟩
set_option maxRecDepth 100000 in
set_option maxHeartbeats 1000000 in
theorem wcert_any (x : CertD) (B : Nat) (w : World) (g : Nat) (S : Out) (h : Wrt w g S) (hl : S.b.length + 40 * certM x ≤ 59000000000000) (hx : x.held w B) (hB : B ≤ g) :
    Calls Try.prog 142 #[.pointer (some ⟨g, 0, none⟩), x.val] w fun e w' => e = .returned (.tuple #[]) ∧ Wrt w' g (S.cert x) ∧ Turned w w' g := by
  have hgt := h.lt
  have hE : Hid (S.cert x = ((((((S.nums [x.h, x.r, x.s]).flag x.has).dig x.b).list x.froms 7 Out.num).need (decide (x.s = 1) || decide (x.s = 2))).need (x.has || decide (x.b = 0))).need (allTo (fromOk x.froms) x.froms.length)) := by show _ = _; rw [Out.need_need (_ : Out) (decide (x.s = 1) || decide (x.s = 2))]; rfl
  simp only [certM] at hl
  obtain ⟨x1, x2, x3, x4, x5, x6, x6a, x6c⟩ := x
  dsimp only at hl hx
  dsimp only [CertD.val]
  obtain ⟨⟨hx0, hx1⟩, hxr, hxs⟩ := hx
  dsimp only at hx0 hx1 hxr hxs
  go_enter Try.func142, Try.ntmps142
  go_wp2_with fail
  generalize Value.agg #[.int .i64 x1, .int .i64 x2, .int .i64 x3, .bool x4, .int .u64 x5, .slice x6a x6.length x6c] = V
  have ll1 := S.nums_len [x1, x2, x3]
  simp only [List.length_cons, List.length_nil] at ll1
  refine (numbers_any [x1, x2, x3] 3 _ g (w.heap.size + 1) S ((h.alloc _).alloc _) (by have hN := Blk.new (w.alloc (.cells #[.int .i64 x1, .int .i64 x2, .int .i64 x3, .bool x4, .int .u64 x5, .slice x6a x6.length x6c] 37)) 3 #[.int .i64 x1, .int .i64 x2, .int .i64 x3]; simpa using hN) (by omega) (by simp; omega)).mono ?_
  rintro e w1 ⟨rfl, hW1, hC1⟩
  have hB1 := hC1.blk ((Blk.new _ _ _).alloc _) (by omega) (by decide)
  have hT1 := (((Turned.refl w g).alloc (by omega) _).alloc (by simp; omega) _).trans hC1
  have hlt1 := hB1.lt
  have hgl1 := hW1.lt
  generalize S.nums [x1, x2, x3] = S1 at *
  have c1_0 := (hB1.cell 0).trans (show _ = some (.int .i64 x1) from rfl)
  have c1_1 := (hB1.cell 1).trans (show _ = some (.int .i64 x2) from rfl)
  have c1_2 := (hB1.cell 2).trans (show _ = some (.int .i64 x3) from rfl)
  have c1_3 := (hB1.cell 3).trans (show _ = some (.bool x4) from rfl)
  have c1_4 := (hB1.cell 4).trans (show _ = some (.int .u64 x5) from rfl)
  have c1_5 := (hB1.cell 5).trans (show _ = some (.slice x6a x6.length x6c) from rfl)
  go_wp2_with fail
  refine (flag_any _ _ g _ hW1 (by omega)).mono ?_
  rintro e w2 ⟨rfl, hW2, hC2⟩
  have hB2 := hC2.blk hB1 (by omega) (by decide)
  have hT2 := hT1.trans hC2
  have hlt2 := hB2.lt
  have hgl2 := hW2.lt
  have ll2 := (by simp [Out.flag] : (S1.flag x4).b.length ≤ S1.b.length + 1)
  generalize S1.flag x4 = S2 at *
  have c2_0 := (hB2.cell 0).trans (show _ = some (.int .i64 x1) from rfl)
  have c2_1 := (hB2.cell 1).trans (show _ = some (.int .i64 x2) from rfl)
  have c2_2 := (hB2.cell 2).trans (show _ = some (.int .i64 x3) from rfl)
  have c2_3 := (hB2.cell 3).trans (show _ = some (.bool x4) from rfl)
  have c2_4 := (hB2.cell 4).trans (show _ = some (.int .u64 x5) from rfl)
  have c2_5 := (hB2.cell 5).trans (show _ = some (.slice x6a x6.length x6c) from rfl)
  go_wp2_with fail
  refine (digest_any _ _ g _ hW2 (by omega) (by omega) (by omega)).mono ?_
  rintro e w3 ⟨rfl, hW3, hC3⟩
  have hB3 := hC3.blk hB2 (by omega) (by decide)
  have hT3 := hT2.trans hC3
  have hlt3 := hB3.lt
  have hgl3 := hW3.lt
  have ll3 := (by simp [Out.dig, be_len] : (S2.dig x5).b.length ≤ S2.b.length + 8)
  generalize S2.dig x5 = S3 at *
  have c3_0 := (hB3.cell 0).trans (show _ = some (.int .i64 x1) from rfl)
  have c3_1 := (hB3.cell 1).trans (show _ = some (.int .i64 x2) from rfl)
  have c3_2 := (hB3.cell 2).trans (show _ = some (.int .i64 x3) from rfl)
  have c3_3 := (hB3.cell 3).trans (show _ = some (.bool x4) from rfl)
  have c3_4 := (hB3.cell 4).trans (show _ = some (.int .u64 x5) from rfl)
  have c3_5 := (hB3.cell 5).trans (show _ = some (.slice x6a x6.length x6c) from rfl)
  have hsw : sumL numW x6 = 6 * x6.length := sumL_const 6 x6
  go_wp2_with fail
  refine (putsInt_any x6 x6a x6c B 7 _ g _ hW3 (hT3.rd hxr hB) hB (by omega) hxs).mono ?_
  rintro e w4 ⟨rfl, hW4, hC4⟩
  have hB4 := hC4.blk hB3 (by omega) (by decide)
  have hT4 := hT3.trans hC4
  have hlt4 := hB4.lt
  have hgl4 := hW4.lt
  have ll4 := list_len Out.num numW Out.num_lenW x6 7 S3
  generalize S3.list x6 7 Out.num = S4 at *
  have c4_0 := (hB4.cell 0).trans (show _ = some (.int .i64 x1) from rfl)
  have c4_1 := (hB4.cell 1).trans (show _ = some (.int .i64 x2) from rfl)
  have c4_2 := (hB4.cell 2).trans (show _ = some (.int .i64 x3) from rfl)
  have c4_3 := (hB4.cell 3).trans (show _ = some (.bool x4) from rfl)
  have c4_4 := (hB4.cell 4).trans (show _ = some (.int .u64 x5) from rfl)
  have c4_5 := (hB4.cell 5).trans (show _ = some (.slice x6a x6.length x6c) from rfl)
  go_upto_region 5 with fail
  go_cut [37] (fun x wc => x = .tuple #[] ∧ Wrt wc g (S4.need (decide (x3 = 1) || decide (x3 = 2))) ∧ Blk wc w.heap.size 37 #[.int .i64 x1, .int .i64 x2, .int .i64 x3, .bool x4, .int .u64 x5, .slice x6a x6.length x6c] ∧ Turned w wc g)
  case first =>
    go_wp2_with fail
    all_goals
      refine (need_any _ _ g _ hW4).mono ?_
      rintro e w5 ⟨rfl, hW5, hC5⟩
      go_wp2_with fail
      go_meet
      exact ⟨rfl, hW5.eq (by congr 1; first | rfl | grind), hC5.blk hB4 (by omega) (by decide), hT4.trans hC5⟩
  case rest =>
    obtain ⟨w5, rfl⟩ : ∃ x : World, x = wc := ⟨_, rfl⟩
    obtain ⟨rfl, hW5, hB5, hT5⟩ := hcut
    have hlt5 := hB5.lt
    have hgl5 := hW5.lt
    have ll5 : (S4.need (decide (x3 = 1) || decide (x3 = 2))).b.length = S4.b.length := rfl
    generalize S4.need (decide (x3 = 1) || decide (x3 = 2)) = S5 at *
    have c5_0 := (hB5.cell 0).trans (show _ = some (.int .i64 x1) from rfl)
    have c5_1 := (hB5.cell 1).trans (show _ = some (.int .i64 x2) from rfl)
    have c5_2 := (hB5.cell 2).trans (show _ = some (.int .i64 x3) from rfl)
    have c5_3 := (hB5.cell 3).trans (show _ = some (.bool x4) from rfl)
    have c5_4 := (hB5.cell 4).trans (show _ = some (.int .u64 x5) from rfl)
    have c5_5 := (hB5.cell 5).trans (show _ = some (.slice x6a x6.length x6c) from rfl)
    go_upto_region 6 with fail
    go_cut [46] (fun x wc => x = .tuple #[] ∧ Wrt wc g (S5.need (x4 || decide (x5 = 0))) ∧ Blk wc w.heap.size 37 #[.int .i64 x1, .int .i64 x2, .int .i64 x3, .bool x4, .int .u64 x5, .slice x6a x6.length x6c] ∧ Turned w wc g)
    case first =>
      go_wp2_with fail
      all_goals
        refine (need_any _ _ g _ hW5).mono ?_
        rintro e w6 ⟨rfl, hW6, hC6⟩
        go_wp2_with fail
        go_meet
        exact ⟨rfl, hW6.eq (by congr 1; first | rfl | grind), hC6.blk hB5 (by omega) (by decide), hT5.trans hC6⟩
    case rest =>
      obtain ⟨w6, rfl⟩ : ∃ x : World, x = wc := ⟨_, rfl⟩
      obtain ⟨rfl, hW6, hB6, hT6⟩ := hcut
      have hlt6 := hB6.lt
      have hgl6 := hW6.lt
      have ll6 : (S5.need (x4 || decide (x5 = 0))).b.length = S5.b.length := rfl
      generalize S5.need (x4 || decide (x5 = 0)) = S6 at *
      have c6_0 := (hB6.cell 0).trans (show _ = some (.int .i64 x1) from rfl)
      have c6_1 := (hB6.cell 1).trans (show _ = some (.int .i64 x2) from rfl)
      have c6_2 := (hB6.cell 2).trans (show _ = some (.int .i64 x3) from rfl)
      have c6_3 := (hB6.cell 3).trans (show _ = some (.bool x4) from rfl)
      have c6_4 := (hB6.cell 4).trans (show _ = some (.int .u64 x5) from rfl)
      have c6_5 := (hB6.cell 5).trans (show _ = some (.slice x6a x6.length x6c) from rfl)
      have hKf : Hid (∀ j (h : j < x6.length), fromOk x6 j = decide (prevI x6 j < x6[j])) := by
        intro j h
        simp [fromOk, List.getElem?_eq_getElem h]
      have hKp : Hid (∀ j (h : j < x6.length), prevI x6 (j + 1) = x6[j]) := by
        intro j h
        simp [prevI, List.getElem?_eq_getElem h]
      go_wp2_with fail
      go_loopw [4, 6, 50] (fun p _ i wr => ∃ j : Nat, i = .int .i64 (j : Int) ∧ j ≤ x6.length ∧ p = .int .i64 (prevI x6 j) ∧ Wrt wr g (S6.need (allTo (fromOk x6) j)) ∧ Turned w wr g) (fun _ _ i _ => x6.length - (intOf i).toNat)
      case atStart => exact ⟨0, rfl, by omega, rfl, by rw [show allTo (fromOk x6) 0 = true from rfl, Out.need_true]; exact hW6, hT6⟩
      case round =>
        obtain ⟨j, rfl, hj, rfl, hW, hT⟩ := hrel
        by_cases hlt : j < x6.length
        · have hji : (j : Int) < (x6.length : Int) := by omega
          obtain ⟨b, off, rfl, hbB, d0⟩ := Ints.at_ (hT.rd hxr hB) hlt
          have hs := Lib.hid (hKf.out j hlt)
          have hs2 : Hid (allTo (fromOk x6) (j + 1) = (allTo (fromOk x6) j && fromOk x6 j)) := rfl
          have hs3 := Lib.hid (hKp.out j hlt)
          generalize x6[j] = y at *
          generalize prevI x6 j = pv at *
          go_wp2_with fail
          refine (need_any _ _ g _ hW).mono ?_
          rintro e w9 ⟨rfl, hW9, hT9⟩
          go_wp2_with fail
          go_roundw
          case rel => exact ⟨j + 1, by go_num, by omega, by rw [hs3.out], hW9.eq (by rw [Out.need_need, hs2.out, hs.out]), hT.trans hT9⟩
          case measure => simp [intOf]; omega
        · have hji : ¬ (j : Int) < (x6.length : Int) := by omega
          have hjl : Hid (j = x6.length) := show j = x6.length by omega
          go_wp2
          go_end0
          exact ⟨rfl, hW.eq (by rw [hE.out, ← hjl.out]), hT⟩
end Go.Proofs.Ytjjkdmngmopjbaa
