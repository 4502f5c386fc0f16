/- The program's writer: a transaction. -/
import Derived.Test.YtjjkdmngmopjbaaProg
import Derived.Test.YtjjkdmngmopjbaaWr15
namespace Go.Proofs.Ytjjkdmngmopjbaa
open Go.RowKit
set_option maxRecDepth 100000 in
set_option maxHeartbeats 2000000 in
theorem wtx_any (x : TxD) (B : Nat) (w : World) (g : Nat) (S : Out) (h : Wrt w g S) (hl : S.b.length + 40 * txM x ≤ 58999999970000) (hx : x.held w B) (hB : B ≤ g) :
    Calls Try.prog 166 #[.pointer (some ⟨g, 0, none⟩), x.val] w fun e w' => e = .returned (.tuple #[]) ∧ Wrt w' g (S.tx x) ∧ Turned w w' g := by
  have hgt := h.lt
  have hE : Hid (S.tx x = (((((((S.nums [x.k, x.f, x.n, x.p, x.l, x.t, x.a]).text x.text 2048).list x.args 8 Out.num).list x.sights 1 Out.sight).list x.proofs 1 Out.proof).need (txOk1 x)).need (txOk2 x)).need (txOk3 x)) := rfl
  obtain ⟨x1, x2, x3, x4, x5, x6, x7, x8, al, aA, ac, ss, sA, sc, ps, pA, pc⟩ := x
  simp only [txM] at hl
  dsimp only [TxD.val]
  obtain ⟨hxa, hxs, hxp, ⟨hs0, hs1, hs2⟩, hxq, hxo⟩ := hx
  dsimp only at hxa hxs hxp hs0 hs1 hs2 hxq hxo
  have hsw : sumL numW al = 6 * al.length := sumL_const 6 al
  have hsw1 := sights_W ss
  have hsw2 := proofs_W ps
  go_enter Try.func166, Try.ntmps166
  go_wp2_with fail
  generalize Value.agg #[.int .i64 x1, .int .i64 x2, .int .i64 x3, .int .i64 x4, .int .i64 x5, .int .i64 x6, .int .i64 x7, .string (bs x8), .slice aA al.length ac, .slice sA ss.length sc, .slice pA ps.length pc] = V
  have ll1 := S.nums_len [x1, x2, x3, x4, x5, x6, x7]
  simp only [List.length_cons, List.length_nil] at ll1
  refine (numbers_any [x1, x2, x3, x4, x5, x6, x7] 7 _ g (w.heap.size + 1) S ((h.alloc _).alloc _) (by have hN := Blk.new (w.alloc (.cells #[.int .i64 x1, .int .i64 x2, .int .i64 x3, .int .i64 x4, .int .i64 x5, .int .i64 x6, .int .i64 x7, .string (bs x8), .slice aA al.length ac, .slice sA ss.length sc, .slice pA ps.length pc] 115)) 3 #[.int .i64 x1, .int .i64 x2, .int .i64 x3, .int .i64 x4, .int .i64 x5, .int .i64 x6, .int .i64 x7]; simpa using hN) (by omega) (by simp; omega)).mono ?_
  rintro e w1 ⟨rfl, hW1, hC1⟩
  have hB1 := hC1.blk ((Blk.new _ _ _).alloc _) (by omega) (by decide)
  have hT1 := (((Turned.refl w g).alloc (by omega) _).alloc (by simp; omega) _).trans hC1
  have hlt1 := hB1.lt
  have hgl1 := hW1.lt
  generalize S.nums [x1, x2, x3, x4, x5, x6, x7] = S1 at *
  have c1_0 := (hB1.cell 0).trans (show _ = some (.int .i64 x1) from rfl)
  have c1_1 := (hB1.cell 1).trans (show _ = some (.int .i64 x2) from rfl)
  have c1_2 := (hB1.cell 2).trans (show _ = some (.int .i64 x3) from rfl)
  have c1_3 := (hB1.cell 3).trans (show _ = some (.int .i64 x4) from rfl)
  have c1_4 := (hB1.cell 4).trans (show _ = some (.int .i64 x5) from rfl)
  have c1_5 := (hB1.cell 5).trans (show _ = some (.int .i64 x6) from rfl)
  have c1_6 := (hB1.cell 6).trans (show _ = some (.int .i64 x7) from rfl)
  have c1_7 := (hB1.cell 7).trans (show _ = some (.string (bs x8)) from rfl)
  have c1_8 := (hB1.cell 8).trans (show _ = some (.slice aA al.length ac) from rfl)
  have c1_9 := (hB1.cell 9).trans (show _ = some (.slice sA ss.length sc) from rfl)
  have c1_10 := (hB1.cell 10).trans (show _ = some (.slice pA ps.length pc) from rfl)
  go_wp2_with fail
  refine (text_anyW x8 2048 _ g _ hW1 (by omega)).mono ?_
  rintro e w2 ⟨rfl, hW2, hC2⟩
  have hB2 := hC2.blk hB1 (by omega) (by decide)
  have hT2 := hT1.trans hC2
  have hlt2 := hB2.lt
  have hgl2 := hW2.lt
  have ll2 := S1.text_len x8 2048
  generalize S1.text x8 2048 = S2 at *
  have c2_0 := (hB2.cell 0).trans (show _ = some (.int .i64 x1) from rfl)
  have c2_1 := (hB2.cell 1).trans (show _ = some (.int .i64 x2) from rfl)
  have c2_2 := (hB2.cell 2).trans (show _ = some (.int .i64 x3) from rfl)
  have c2_3 := (hB2.cell 3).trans (show _ = some (.int .i64 x4) from rfl)
  have c2_4 := (hB2.cell 4).trans (show _ = some (.int .i64 x5) from rfl)
  have c2_5 := (hB2.cell 5).trans (show _ = some (.int .i64 x6) from rfl)
  have c2_6 := (hB2.cell 6).trans (show _ = some (.int .i64 x7) from rfl)
  have c2_7 := (hB2.cell 7).trans (show _ = some (.string (bs x8)) from rfl)
  have c2_8 := (hB2.cell 8).trans (show _ = some (.slice aA al.length ac) from rfl)
  have c2_9 := (hB2.cell 9).trans (show _ = some (.slice sA ss.length sc) from rfl)
  have c2_10 := (hB2.cell 10).trans (show _ = some (.slice pA ps.length pc) from rfl)
  go_wp2_with fail
  refine (putsInt_any al aA ac B 8 _ g _ hW2 (hT2.rd hxa hB) hB (by omega) hs0).mono ?_
  rintro e w3 ⟨rfl, hW3, hC3⟩
  have hB3 := hC3.blk hB2 (by omega) (by decide)
  have hT3 := hT2.trans hC3
  have hlt3 := hB3.lt
  have hgl3 := hW3.lt
  have ll3 := list_len Out.num numW Out.num_lenW al 8 S2
  generalize S2.list al 8 Out.num = S3 at *
  have c3_0 := (hB3.cell 0).trans (show _ = some (.int .i64 x1) from rfl)
  have c3_1 := (hB3.cell 1).trans (show _ = some (.int .i64 x2) from rfl)
  have c3_2 := (hB3.cell 2).trans (show _ = some (.int .i64 x3) from rfl)
  have c3_3 := (hB3.cell 3).trans (show _ = some (.int .i64 x4) from rfl)
  have c3_4 := (hB3.cell 4).trans (show _ = some (.int .i64 x5) from rfl)
  have c3_5 := (hB3.cell 5).trans (show _ = some (.int .i64 x6) from rfl)
  have c3_6 := (hB3.cell 6).trans (show _ = some (.int .i64 x7) from rfl)
  have c3_7 := (hB3.cell 7).trans (show _ = some (.string (bs x8)) from rfl)
  have c3_8 := (hB3.cell 8).trans (show _ = some (.slice aA al.length ac) from rfl)
  have c3_9 := (hB3.cell 9).trans (show _ = some (.slice sA ss.length sc) from rfl)
  have c3_10 := (hB3.cell 10).trans (show _ = some (.slice pA ps.length pc) from rfl)
  go_wp2_with fail
  refine (putsSight_any ss sA sc B 1 _ g _ hW3 (hT3.rd hxs hB) hB (fun y hy => (hxq y hy).below (hT3.low.mono hB)) (by omega) hs1).mono ?_
  rintro e w4 ⟨rfl, hW4, hC4⟩
  have hB4 := hC4.blk hB3 (by omega) (by decide)
  have hT4 := hT3.trans hC4
  have hlt4 := hB4.lt
  have hgl4 := hW4.lt
  have ll4 := list_len Out.sight sightW Out.sight_len ss 1 S3
  generalize S3.list ss 1 Out.sight = S4 at *
  have c4_0 := (hB4.cell 0).trans (show _ = some (.int .i64 x1) from rfl)
  have c4_1 := (hB4.cell 1).trans (show _ = some (.int .i64 x2) from rfl)
  have c4_2 := (hB4.cell 2).trans (show _ = some (.int .i64 x3) from rfl)
  have c4_3 := (hB4.cell 3).trans (show _ = some (.int .i64 x4) from rfl)
  have c4_4 := (hB4.cell 4).trans (show _ = some (.int .i64 x5) from rfl)
  have c4_5 := (hB4.cell 5).trans (show _ = some (.int .i64 x6) from rfl)
  have c4_6 := (hB4.cell 6).trans (show _ = some (.int .i64 x7) from rfl)
  have c4_7 := (hB4.cell 7).trans (show _ = some (.string (bs x8)) from rfl)
  have c4_8 := (hB4.cell 8).trans (show _ = some (.slice aA al.length ac) from rfl)
  have c4_9 := (hB4.cell 9).trans (show _ = some (.slice sA ss.length sc) from rfl)
  have c4_10 := (hB4.cell 10).trans (show _ = some (.slice pA ps.length pc) from rfl)
  go_wp2_with fail
  refine (putsProof_any ps pA pc B 1 _ g _ hW4 (hT4.rd hxp hB) hB (fun y hy => (hxo y hy).below (hT4.low.mono hB)) (by omega) hs2).mono ?_
  rintro e w5 ⟨rfl, hW5, hC5⟩
  have hB5 := hC5.blk hB4 (by omega) (by decide)
  have hT5 := hT4.trans hC5
  have hlt5 := hB5.lt
  have hgl5 := hW5.lt
  have ll5 := list_len Out.proof proofW Out.proof_lenW ps 1 S4
  generalize S4.list ps 1 Out.proof = S5 at *
  have c5_0 := (hB5.cell 0).trans (show _ = some (.int .i64 x1) from rfl)
  have c5_1 := (hB5.cell 1).trans (show _ = some (.int .i64 x2) from rfl)
  have c5_2 := (hB5.cell 2).trans (show _ = some (.int .i64 x3) from rfl)
  have c5_3 := (hB5.cell 3).trans (show _ = some (.int .i64 x4) from rfl)
  have c5_4 := (hB5.cell 4).trans (show _ = some (.int .i64 x5) from rfl)
  have c5_5 := (hB5.cell 5).trans (show _ = some (.int .i64 x6) from rfl)
  have c5_6 := (hB5.cell 6).trans (show _ = some (.int .i64 x7) from rfl)
  have c5_7 := (hB5.cell 7).trans (show _ = some (.string (bs x8)) from rfl)
  have c5_8 := (hB5.cell 8).trans (show _ = some (.slice aA al.length ac) from rfl)
  have c5_9 := (hB5.cell 9).trans (show _ = some (.slice sA ss.length sc) from rfl)
  have c5_10 := (hB5.cell 10).trans (show _ = some (.slice pA ps.length pc) from rfl)
  go_wp2_with fail
  refine (fields_any _ _).mono ?_
  rintro e w' ⟨rfl, rfl⟩
  have hK1 : Hid (txOk1 ⟨x1, x2, x3, x4, x5, x6, x7, x8, al, aA, ac, ss, sA, sc, ps, pA, pc⟩ = (decide (1 ≤ x1) && decide (x1 ≤ 10) && decide (1 ≤ x2) && (toF x1 == decide (1 ≤ x6)))) := rfl
  have hK2 : Hid (txOk2 ⟨x1, x2, x3, x4, x5, x6, x7, x8, al, aA, ac, ss, sA, sc, ps, pA, pc⟩ = ((amountF x1 || decide (x7 = 0)) && (textF x1 || emp x8) && (argsF x1 || decide (al.length = 0)))) := rfl
  have hK3 : Hid (txOk3 ⟨x1, x2, x3, x4, x5, x6, x7, x8, al, aA, ac, ss, sA, sc, ps, pA, pc⟩ = ((sightF x1 == decide (ss.length = 1)) && (proofF x1 == decide (ps.length = 1)))) := rfl
  generalize toF x1 = q1 at *
  generalize amountF x1 = q2 at *
  generalize textF x1 = q3 at *
  generalize argsF x1 = q4 at *
  generalize sightF x1 = q5 at *
  generalize proofF x1 = q6 at *
  rw [hK1.out, hK2.out, hK3.out] at hE
  have he1 : Hid (decide (ss.length = 1) = ((ss.length : Int) == 1)) := by show _ = _; rw [Bool.eq_iff_iff]; simp; omega
  have he2 : Hid (decide (ps.length = 1) = ((ps.length : Int) == 1)) := by show _ = _; rw [Bool.eq_iff_iff]; simp; omega
  go_upto_region 7 with fail
  go_cut [4, 74] (fun _ x wc => x = .tuple #[] ∧ Wrt wc g (S5.need (decide (1 ≤ x1) && decide (x1 ≤ 10) && decide (1 ≤ x2) && (q1 == decide (1 ≤ x6)))) ∧ Blk wc w.heap.size 115 #[.int .i64 x1, .int .i64 x2, .int .i64 x3, .int .i64 x4, .int .i64 x5, .int .i64 x6, .int .i64 x7, .string (bs x8), .slice aA al.length ac, .slice sA ss.length sc, .slice pA ps.length pc] ∧ Turned w wc g)
  case first =>
    go_wp2_with fail
    all_goals
      refine (need_any _ _ g _ hW5).mono ?_
      rintro e w6 ⟨rfl, hW6, hC6⟩
      go_wp2_with fail
      go_meet
      exact ⟨rfl, hW6.eq (by congr 1; first | rfl | grind | grind [emp]), hC6.blk hB5 (by omega) (by decide), hT5.trans hC6⟩
  case rest =>
    obtain ⟨w6, rfl⟩ : ∃ x : World, x = wc := ⟨_, rfl⟩
    obtain ⟨rfl, hW6, hB6, hT6⟩ := hcut
    have hlt6 := hB6.lt
    have hgl6 := hW6.lt
    have ll6 : (S5.need (decide (1 ≤ x1) && decide (x1 ≤ 10) && decide (1 ≤ x2) && (q1 == decide (1 ≤ x6)))).b.length = S5.b.length := rfl
    generalize S5.need (decide (1 ≤ x1) && decide (x1 ≤ 10) && decide (1 ≤ x2) && (q1 == decide (1 ≤ x6))) = S6 at *
    have c6_0 := (hB6.cell 0).trans (show _ = some (.int .i64 x1) from rfl)
    have c6_1 := (hB6.cell 1).trans (show _ = some (.int .i64 x2) from rfl)
    have c6_2 := (hB6.cell 2).trans (show _ = some (.int .i64 x3) from rfl)
    have c6_3 := (hB6.cell 3).trans (show _ = some (.int .i64 x4) from rfl)
    have c6_4 := (hB6.cell 4).trans (show _ = some (.int .i64 x5) from rfl)
    have c6_5 := (hB6.cell 5).trans (show _ = some (.int .i64 x6) from rfl)
    have c6_6 := (hB6.cell 6).trans (show _ = some (.int .i64 x7) from rfl)
    have c6_7 := (hB6.cell 7).trans (show _ = some (.string (bs x8)) from rfl)
    have c6_8 := (hB6.cell 8).trans (show _ = some (.slice aA al.length ac) from rfl)
    have c6_9 := (hB6.cell 9).trans (show _ = some (.slice sA ss.length sc) from rfl)
    have c6_10 := (hB6.cell 10).trans (show _ = some (.slice pA ps.length pc) from rfl)
    go_upto_region 8 with fail
    go_cut [5, 6, 7, 99] (fun _ _ _ x wc => x = .tuple #[] ∧ Wrt wc g (S6.need ((q2 || decide (x7 = 0)) && (q3 || emp x8) && (q4 || decide (al.length = 0)))) ∧ Blk wc w.heap.size 115 #[.int .i64 x1, .int .i64 x2, .int .i64 x3, .int .i64 x4, .int .i64 x5, .int .i64 x6, .int .i64 x7, .string (bs x8), .slice aA al.length ac, .slice sA ss.length sc, .slice pA ps.length pc] ∧ Turned w wc g)
    case first =>
      go_wp2_with fail
      all_goals
        refine (need_any _ _ g _ hW6).mono ?_
        rintro e w7 ⟨rfl, hW7, hC7⟩
        go_wp2_with fail
        go_meet
        exact ⟨rfl, hW7.eq (by congr 1; first | rfl | grind | grind [emp]), hC7.blk hB6 (by omega) (by decide), hT6.trans hC7⟩
    case rest =>
      obtain ⟨w7, rfl⟩ : ∃ x : World, x = wc := ⟨_, rfl⟩
      obtain ⟨rfl, hW7, hB7, hT7⟩ := hcut
      have hlt7 := hB7.lt
      have hgl7 := hW7.lt
      have ll7 : (S6.need ((q2 || decide (x7 = 0)) && (q3 || emp x8) && (q4 || decide (al.length = 0)))).b.length = S6.b.length := rfl
      generalize S6.need ((q2 || decide (x7 = 0)) && (q3 || emp x8) && (q4 || decide (al.length = 0))) = S7 at *
      have c7_0 := (hB7.cell 0).trans (show _ = some (.int .i64 x1) from rfl)
      have c7_1 := (hB7.cell 1).trans (show _ = some (.int .i64 x2) from rfl)
      have c7_2 := (hB7.cell 2).trans (show _ = some (.int .i64 x3) from rfl)
      have c7_3 := (hB7.cell 3).trans (show _ = some (.int .i64 x4) from rfl)
      have c7_4 := (hB7.cell 4).trans (show _ = some (.int .i64 x5) from rfl)
      have c7_5 := (hB7.cell 5).trans (show _ = some (.int .i64 x6) from rfl)
      have c7_6 := (hB7.cell 6).trans (show _ = some (.int .i64 x7) from rfl)
      have c7_7 := (hB7.cell 7).trans (show _ = some (.string (bs x8)) from rfl)
      have c7_8 := (hB7.cell 8).trans (show _ = some (.slice aA al.length ac) from rfl)
      have c7_9 := (hB7.cell 9).trans (show _ = some (.slice sA ss.length sc) from rfl)
      have c7_10 := (hB7.cell 10).trans (show _ = some (.slice pA ps.length pc) from rfl)
      go_wp2_with fail
      all_goals
        refine (need_any _ _ g _ hW7).mono ?_
        rintro e w8 ⟨rfl, hW8, hC8⟩
        have hB8 := hC8.blk hB7 (by omega) (by decide)
        have hT8 := hT7.trans hC8
        have hlt8 := hB8.lt
        have hgl8 := hW8.lt
        go_wp2_with fail
        go_end0
        exact ⟨rfl, Wrt.eq hW8 (by rw [hE.out, he1.out, he2.out]; congr 1; grind), hT8⟩
end Go.Proofs.Ytjjkdmngmopjbaa
