/- Of the texts Wr15, Wr15t, Wr12, Wr16, Wr17. -/
import Derived.Test.YtjhaafbbdgjagaaGreatProg
import Derived.Test.YtjhaafbbdgjagaaGreatG27
import Derived.Test.YtjhaafbbdgjagaaGreatG26
import Derived.Deep.DeepCutAuto
set_option linter.unusedSimpArgs false
set_option linter.unusedVariables false
namespace Go.Proofs.YtjhaafbbdgjagaaGreat
open Go.RowKit
set_option maxRecDepth 100000 in
set_option maxHeartbeats 1000000 in
theorem fields_any (k : Int) (w : World) :
  Calls Tryz.prog 186 #[.int .i64 k] w fun e w' => e = .returned (.tuple #[.bool (toF k), .bool (amountF k), .bool (textF k), .bool (argsF k), .bool (sightF k), .bool (proofF k)]) ∧ w = w' := by
 have h0 : Hid (toF k = (decide (k = 1) || decide (k = 3) || decide (k = 7) || decide (k = 8))) := rfl; have h1 : Hid (amountF k = (toF k || decide (k = 2) || decide (k = 4) || decide (k = 5))) := rfl; have h2 : Hid (textF k = (decide (k = 2) || decide (k = 3))) := rfl; have h3 : Hid (argsF k = decide (k = 3)) := rfl; have h4 : Hid (sightF k = decide (k = 9)) := rfl; have h5 : Hid (proofF k = decide (k = 10)) := rfl
 by_cases h : k = 3
 ·subst h; go_enter Tryz.func186, Tryz.ntmps186; go_wp2_with fail; exact bodyPost_ret (v := .tuple #[.bool true, .bool true, .bool true, .bool true, .bool false, .bool false]) (by simp [results, Tryz.results186, go_sem]) rfl ⟨by simp [toF, amountF, textF, argsF, sightF, proofF], rfl⟩
 have b3 : (k == 3) = false := beq_eq_false_iff_ne.2 h; have n3 := h; clear h
 by_cases h : k = 1
 ·subst h; go_enter Tryz.func186, Tryz.ntmps186; go_wp2_with fail; exact bodyPost_ret (v := .tuple #[.bool true, .bool true, .bool false, .bool false, .bool false, .bool false]) (by simp [results, Tryz.results186, go_sem]) rfl ⟨by simp [toF, amountF, textF, argsF, sightF, proofF], rfl⟩
 have b1 : (k == 1) = false := beq_eq_false_iff_ne.2 h; have n1 := h; clear h
 by_cases h : k = 7
 ·subst h; go_enter Tryz.func186, Tryz.ntmps186; go_wp2_with fail; exact bodyPost_ret (v := .tuple #[.bool true, .bool true, .bool false, .bool false, .bool false, .bool false]) (by simp [results, Tryz.results186, go_sem]) rfl ⟨by simp [toF, amountF, textF, argsF, sightF, proofF], rfl⟩
 have b7 : (k == 7) = false := beq_eq_false_iff_ne.2 h; have n7 := h; clear h
 by_cases h : k = 8
 ·subst h; go_enter Tryz.func186, Tryz.ntmps186; go_wp2_with fail; exact bodyPost_ret (v := .tuple #[.bool true, .bool true, .bool false, .bool false, .bool false, .bool false]) (by simp [results, Tryz.results186, go_sem]) rfl ⟨by simp [toF, amountF, textF, argsF, sightF, proofF], rfl⟩
 have b8 : (k == 8) = false := beq_eq_false_iff_ne.2 h; have n8 := h; clear h
 by_cases h : k = 4
 ·subst h; go_enter Tryz.func186, Tryz.ntmps186; go_wp2_with fail; exact bodyPost_ret (v := .tuple #[.bool false, .bool true, .bool false, .bool false, .bool false, .bool false]) (by simp [results, Tryz.results186, go_sem]) rfl ⟨by simp [toF, amountF, textF, argsF, sightF, proofF], rfl⟩
 have b4 : (k == 4) = false := beq_eq_false_iff_ne.2 h; have n4 := h; clear h
 by_cases h : k = 5
 ·subst h; go_enter Tryz.func186, Tryz.ntmps186; go_wp2_with fail; exact bodyPost_ret (v := .tuple #[.bool false, .bool true, .bool false, .bool false, .bool false, .bool false]) (by simp [results, Tryz.results186, go_sem]) rfl ⟨by simp [toF, amountF, textF, argsF, sightF, proofF], rfl⟩
 have b5 : (k == 5) = false := beq_eq_false_iff_ne.2 h; have n5 := h; clear h
 by_cases h : k = 2
 ·subst h; go_enter Tryz.func186, Tryz.ntmps186; go_wp2_with fail; exact bodyPost_ret (v := .tuple #[.bool false, .bool true, .bool true, .bool false, .bool false, .bool false]) (by simp [results, Tryz.results186, go_sem]) rfl ⟨by simp [toF, amountF, textF, argsF, sightF, proofF], rfl⟩
 have b2 : (k == 2) = false := beq_eq_false_iff_ne.2 h; have n2 := h; clear h
 by_cases h : k = 9
 ·subst h; go_enter Tryz.func186, Tryz.ntmps186; go_wp2_with fail; exact bodyPost_ret (v := .tuple #[.bool false, .bool false, .bool false, .bool false, .bool true, .bool false]) (by simp [results, Tryz.results186, go_sem]) rfl ⟨by simp [toF, amountF, textF, argsF, sightF, proofF], rfl⟩
 have b9 : (k == 9) = false := beq_eq_false_iff_ne.2 h; have n9 := h; clear h
 by_cases h : k = 10
 ·subst h; go_enter Tryz.func186, Tryz.ntmps186; go_wp2_with fail; exact bodyPost_ret (v := .tuple #[.bool false, .bool false, .bool false, .bool false, .bool false, .bool true]) (by simp [results, Tryz.results186, go_sem]) rfl ⟨by simp [toF, amountF, textF, argsF, sightF, proofF], rfl⟩
 have b10 : (k == 10) = false := beq_eq_false_iff_ne.2 h; have n10 := h; clear h; go_enter Tryz.func186, Tryz.ntmps186; go_wp2_with fail; exact bodyPost_ret (v := .tuple #[.bool false, .bool false, .bool false, .bool false, .bool false, .bool false]) (by simp [results, Tryz.results186, go_sem]) rfl ⟨by rw [h0.out, h1.out, h2.out, h3.out, h4.out, h5.out, h0.out]; simp [*], rfl⟩
set_option maxRecDepth 100000 in
set_option maxHeartbeats 1000000 in
theorem putsSight_any (l : List SightD) (A : Option Addr) (c B : Nat) (m : Int) (w : World) (g : Nat) (S : Out) (h : Wrt w g S) (hr : SightsL w B A l) (hB : B ≤ g) (hd : ∀ x ∈ l, x.held w B) (hl : S.b.length + 6 + sumL sightW l ≤ 58999999980000) (hm : l.length ≤ maxLen) :
  Calls Tryz.prog 183 #[.pointer (some ⟨g, 0, none⟩), .slice A l.length c, .int .i64 m, .func (.func 184) #[] #[]] w fun e w' => e = .returned (.tuple #[]) ∧ Wrt w' g (S.list l m Out.sight) ∧ Turned w w' g := by
 unfold maxLen at hm; have hgt := h.lt; have hn := ((S.lim l.length m).num_len l.length)
 have hb0 : (S.lim l.length m).b.length = S.b.length := rfl; have hE : Hid (S.list l m Out.sight = l.foldl Out.sight ((S.lim l.length m).num l.length)) := rfl; go_enter Tryz.func183, Tryz.ntmps183; go_wp2_with fail; refine (limited_any _ _ _ g _ h).mono ?_; rintro e w1 ⟨rfl, hW1, hT1⟩; go_wp2_with fail; refine (number_any _ _ g _ hW1 (by omega)).mono ?_; rintro e w2 ⟨rfl, hW2, hT2⟩; have hT02 := hT1.trans hT2; clear hT1 hT2 hW1; generalize (S.lim l.length m).num l.length = S2 at *; go_wp2_with fail
 go_loopw [9, 21] (fun _ i wr => ∃ j : Nat, i = .int .i64 (j : Int) ∧ j ≤ l.length ∧ Wrt wr g ((l.take j).foldl Out.sight S2) ∧ Turned w wr g) (fun _ i _ => l.length - (intOf i).toNat)
 case atStart => exact ⟨0, rfl, by omega, by simpa using hW2, hT02⟩
 case round =>
  obtain ⟨j, rfl, hj, hW, hT⟩ := hrel; have hgw := hW.lt
  by_cases hlt : j < l.length
  ·have hji : (j : Int) < (l.length : Int) := by omega
   obtain ⟨b, off, rfl, hbB, hc⟩ := SightsL.at_ (hT.rd hr hB) hlt; have HS := Lib.hid (fold_take Out.sight S2 l j hlt); have hle := fold_len Out.sight sightW Out.sight_len (l.take j) S2; have hle2 := sumL_take sightW l j hlt; have hx := (hd l[j] (List.getElem_mem hlt)).below (hT.low.mono hB); generalize hxx : l[j] = x at *; clear hxx; have c0 : wr.cell? ⟨b, off + j * 16, none⟩ = some (.int .i64 x.header.c) := hc 0 _ rfl; have c1 : wr.cell? ⟨b, off + j * 16 + 1, none⟩ = some (.int .i64 x.header.h) := hc 1 _ rfl; have c2 : wr.cell? ⟨b, off + j * 16 + 2, none⟩ = some (.int .u64 x.header.p) := hc 2 _ rfl; have c3 : wr.cell? ⟨b, off + j * 16 + 3, none⟩ = some (.int .u64 x.header.t) := hc 3 _ rfl; have c4 : wr.cell? ⟨b, off + j * 16 + 4, none⟩ = some (.int .u64 x.header.g) := hc 4 _ rfl; have c5 : wr.cell? ⟨b, off + j * 16 + 5, none⟩ = some (.int .u64 x.header.s) := hc 5 _ rfl; have c6 : wr.cell? ⟨b, off + j * 16 + 6, none⟩ = some (.int .u64 x.header.r) := hc 6 _ rfl; have c7 : wr.cell? ⟨b, off + j * 16 + 7, none⟩ = some (.int .u64 x.header.b) := hc 7 _ rfl; have c8 : wr.cell? ⟨b, off + j * 16 + 8, none⟩ = some (.int .i64 x.header.o) := hc 8 _ rfl; have c9 : wr.cell? ⟨b, off + j * 16 + 9, none⟩ = some (.int .i64 x.cert.h) := hc 9 _ rfl; have c10 : wr.cell? ⟨b, off + j * 16 + 10, none⟩ = some (.int .i64 x.cert.r) := hc 10 _ rfl; have c11 : wr.cell? ⟨b, off + j * 16 + 11, none⟩ = some (.int .i64 x.cert.s) := hc 11 _ rfl; have c12 : wr.cell? ⟨b, off + j * 16 + 12, none⟩ = some (.bool x.cert.has) := hc 12 _ rfl; have c13 : wr.cell? ⟨b, off + j * 16 + 13, none⟩ = some (.int .u64 x.cert.b) := hc 13 _ rfl; have c14 : wr.cell? ⟨b, off + j * 16 + 14, none⟩ = some (.slice x.cert.fa x.cert.froms.length x.cert.fc) := hc 14 _ rfl; have c15 : wr.cell? ⟨b, off + j * 16 + 15, none⟩ = some (.slice x.sa x.seats.length x.sc) := hc 15 _ rfl; clear hc; go_wp2_with fail
   refine (wsight_any x B _ g _ (hW.alloc _) (by unfold sightW at *; omega) (hx.below ((Below.refl B wr).alloc (by omega) _)) hB).mono ?_; rintro e w3 ⟨rfl, hW3, hT3⟩; go_wp2_with fail
   go_roundw
   case rel => exact ⟨j + 1, by go_num, by omega, by rw [HS.out]; exact hW3, (hT.alloc (Nat.le_of_lt hgw) _).trans hT3⟩
   case measure => simp [intOf]; omega
  ·have hji : ¬ (j : Int) < (l.length : Int) := by omega
   go_wp2
   go_end0
   rw [List.take_of_length_le (by omega)] at hW; exact ⟨rfl, by rw [hE.out]; exact hW, hT⟩
set_option maxRecDepth 100000 in
set_option maxHeartbeats 1000000 in
theorem putsProof_any (l : List ProofD) (A : Option Addr) (c B : Nat) (m : Int) (w : World) (g : Nat) (S : Out) (h : Wrt w g S) (hr : ProofsL w B A l) (hB : B ≤ g) (hd : ∀ x ∈ l, x.held w B) (hl : S.b.length + 6 + sumL proofW l ≤ 58999999980000) (hm : l.length ≤ maxLen) :
  Calls Tryz.prog 185 #[.pointer (some ⟨g, 0, none⟩), .slice A l.length c, .int .i64 m, .func (.func 97) #[] #[]] w fun e w' => e = .returned (.tuple #[]) ∧ Wrt w' g (S.list l m Out.proof) ∧ Turned w w' g := by
 unfold maxLen at hm; have hgt := h.lt; have hn := ((S.lim l.length m).num_len l.length)
 have hb0 : (S.lim l.length m).b.length = S.b.length := rfl; have hE : Hid (S.list l m Out.proof = l.foldl Out.proof ((S.lim l.length m).num l.length)) := rfl; go_enter Tryz.func185, Tryz.ntmps185; go_wp2_with fail; refine (limited_any _ _ _ g _ h).mono ?_; rintro e w1 ⟨rfl, hW1, hT1⟩; go_wp2_with fail; refine (number_any _ _ g _ hW1 (by omega)).mono ?_; rintro e w2 ⟨rfl, hW2, hT2⟩; have hT02 := hT1.trans hT2; clear hT1 hT2 hW1; generalize (S.lim l.length m).num l.length = S2 at *; go_wp2_with fail
 go_loopw [9, 21] (fun _ i wr => ∃ j : Nat, i = .int .i64 (j : Int) ∧ j ≤ l.length ∧ Wrt wr g ((l.take j).foldl Out.proof S2) ∧ Turned w wr g) (fun _ i _ => l.length - (intOf i).toNat)
 case atStart => exact ⟨0, rfl, by omega, by simpa using hW2, hT02⟩
 case round =>
  obtain ⟨j, rfl, hj, hW, hT⟩ := hrel; have hgw := hW.lt
  by_cases hlt : j < l.length
  ·have hji : (j : Int) < (l.length : Int) := by omega
   obtain ⟨b, off, rfl, hbB, hc⟩ := ProofsL.at_ (hT.rd hr hB) hlt; have HS := Lib.hid (fold_take Out.proof S2 l j hlt); have hle := fold_len Out.proof proofW Out.proof_lenW (l.take j) S2; have hle2 := sumL_take proofW l j hlt; have hx := (hd l[j] (List.getElem_mem hlt)).below (hT.low.mono hB); generalize hxx : l[j] = x at *; clear hxx; have c0 : wr.cell? ⟨b, off + j * 4, none⟩ = some (.slice x.ta x.turns.length x.tc) := hc 0 _ rfl; have c1 : wr.cell? ⟨b, off + j * 4 + 1, none⟩ = some (.bool x.leaf) := hc 1 _ rfl; have c2 : wr.cell? ⟨b, off + j * 4 + 2, none⟩ = some (.string (bs x.key)) := hc 2 _ rfl; have c3 : wr.cell? ⟨b, off + j * 4 + 3, none⟩ = some (.string (bs x.value)) := hc 3 _ rfl; clear hc; go_wp2_with fail; refine (wproof_any x B _ g _ (hW.alloc _) (by unfold proofW at *; omega) (hx.below ((Below.refl B wr).alloc (by omega) _)) hB).mono ?_; rintro e w3 ⟨rfl, hW3, hT3⟩; go_wp2_with fail
   go_roundw
   case rel => exact ⟨j + 1, by go_num, by omega, by rw [HS.out]; exact hW3, (hT.alloc (Nat.le_of_lt hgw) _).trans hT3⟩
   case measure => simp [intOf]; omega
  ·have hji : ¬ (j : Int) < (l.length : Int) := by omega
   go_wp2
   go_end0
   rw [List.take_of_length_le (by omega)] at hW; exact ⟨rfl, by rw [hE.out]; exact hW, hT⟩
set_option maxRecDepth 100000 in
set_option maxHeartbeats 2000000 in
theorem wtx_any (x : TxD) (B : Nat) (w : World) (g : Nat) (S : Out) (h : Wrt w g S) (hl : S.b.length + 40 * txM x ≤ 58999999970000) (hx : x.held w B) (hB : B ≤ g) :
  Calls Tryz.prog 103 #[.pointer (some ⟨g, 0, none⟩), x.val] w fun e w' => e = .returned (.tuple #[]) ∧ Wrt w' g (S.tx x) ∧ Turned w w' g := by
 have hgt := h.lt; have hE : Hid (S.tx x = (((((((S.nums [x.k, x.f, x.n, x.p, x.l, x.t, x.a]).text x.text 2048).list x.args 8 Out.num).list x.sights 1 Out.sight).list x.proofs 1 Out.proof).need (txOk1 x)).need (txOk2 x)).need (txOk3 x)) := rfl; obtain ⟨x1, x2, x3, x4, x5, x6, x7, x8, al, aA, ac, ss, sA, sc, ps, pA, pc⟩ := x; simp only [txM] at hl; dsimp only [TxD.val]; obtain ⟨hxa, hxs, hxp, ⟨hs0, hs1, hs2⟩, hxq, hxo⟩ := hx; dsimp only at hxa hxs hxp hs0 hs1 hs2 hxq hxo; have hsw : sumL numW al = 6 * al.length := sumL_const 6 al; have hsw1 := sights_W ss; have hsw2 := proofs_W ps; go_enter Tryz.func103, Tryz.ntmps103; go_wp2_with fail; generalize Value.agg #[.int .i64 x1, .int .i64 x2, .int .i64 x3, .int .i64 x4, .int .i64 x5, .int .i64 x6, .int .i64 x7, .string (bs x8), .slice aA al.length ac, .slice sA ss.length sc, .slice pA ps.length pc] = V; have ll1 := S.nums_len [x1, x2, x3, x4, x5, x6, x7]; simp only [List.length_cons, List.length_nil] at ll1; refine (numbers_any [x1, x2, x3, x4, x5, x6, x7] 7 _ g (w.heap.size + 1) S ((h.alloc _).alloc _) (by have hN := Blk.new (w.alloc (.cells #[.int .i64 x1, .int .i64 x2, .int .i64 x3, .int .i64 x4, .int .i64 x5, .int .i64 x6, .int .i64 x7, .string (bs x8), .slice aA al.length ac, .slice sA ss.length sc, .slice pA ps.length pc] 94)) 3 #[.int .i64 x1, .int .i64 x2, .int .i64 x3, .int .i64 x4, .int .i64 x5, .int .i64 x6, .int .i64 x7]; simpa using hN) (by omega) (by simp; omega)).mono ?_; rintro e w1 ⟨rfl, hW1, hC1⟩; have hB1 := hC1.blk ((Blk.new _ _ _).alloc _) (by omega) (by decide); have hT1 := (((Turned.refl w g).alloc (by omega) _).alloc (by simp; omega) _).trans hC1; have hlt1 := hB1.lt; have hgl1 := hW1.lt; generalize S.nums [x1, x2, x3, x4, x5, x6, x7] = S1 at *; have c1_0 := hB1.c 0 rfl; have c1_1 := hB1.c 1 rfl; have c1_2 := hB1.c 2 rfl; have c1_3 := hB1.c 3 rfl; have c1_4 := hB1.c 4 rfl; have c1_5 := hB1.c 5 rfl; have c1_6 := hB1.c 6 rfl
 have c1_7 := hB1.c 7 rfl; have c1_8 := hB1.c 8 rfl; have c1_9 := hB1.c 9 rfl; have c1_10 := hB1.c 10 rfl; go_wp2_with fail; refine (text_anyW x8 2048 _ g _ hW1 (by omega)).mono ?_; rintro e w2 ⟨rfl, hW2, hC2⟩; have hB2 := hC2.blk hB1 (by omega) (by decide); have hT2 := hT1.trans hC2; have hlt2 := hB2.lt; have hgl2 := hW2.lt; have ll2 := S1.text_len x8 2048; generalize S1.text x8 2048 = S2 at *; have c2_0 := hB2.c 0 rfl; have c2_1 := hB2.c 1 rfl; have c2_2 := hB2.c 2 rfl; have c2_3 := hB2.c 3 rfl; have c2_4 := hB2.c 4 rfl; have c2_5 := hB2.c 5 rfl; have c2_6 := hB2.c 6 rfl; have c2_7 := hB2.c 7 rfl; have c2_8 := hB2.c 8 rfl; have c2_9 := hB2.c 9 rfl; have c2_10 := hB2.c 10 rfl; go_wp2_with fail; refine (putsInt_any al aA ac B 8 _ g _ hW2 (hT2.rd hxa hB) hB (by omega) hs0).mono ?_; rintro e w3 ⟨rfl, hW3, hC3⟩; have hB3 := hC3.blk hB2 (by omega) (by decide); have hT3 := hT2.trans hC3; have hlt3 := hB3.lt; have hgl3 := hW3.lt; have ll3 := list_len Out.num numW Out.num_lenW al 8 S2; generalize S2.list al 8 Out.num = S3 at *; have c3_0 := hB3.c 0 rfl; have c3_1 := hB3.c 1 rfl; have c3_2 := hB3.c 2 rfl; have c3_3 := hB3.c 3 rfl; have c3_4 := hB3.c 4 rfl; have c3_5 := hB3.c 5 rfl; have c3_6 := hB3.c 6 rfl; have c3_7 := hB3.c 7 rfl; have c3_8 := hB3.c 8 rfl; have c3_9 := hB3.c 9 rfl; have c3_10 := hB3.c 10 rfl; go_wp2_with fail; refine (putsSight_any ss sA sc B 1 _ g _ hW3 (hT3.rd hxs hB) hB (fun y hy => (hxq y hy).below (hT3.low.mono hB)) (by omega) hs1).mono ?_; rintro e w4 ⟨rfl, hW4, hC4⟩; have hB4 := hC4.blk hB3 (by omega) (by decide); have hT4 := hT3.trans hC4; have hlt4 := hB4.lt; have hgl4 := hW4.lt; have ll4 := list_len Out.sight sightW Out.sight_len ss 1 S3; generalize S3.list ss 1 Out.sight = S4 at *; have c4_0 := hB4.c 0 rfl; have c4_1 := hB4.c 1 rfl; have c4_2 := hB4.c 2 rfl; have c4_3 := hB4.c 3 rfl; have c4_4 := hB4.c 4 rfl; have c4_5 := hB4.c 5 rfl; have c4_6 := hB4.c 6 rfl; have c4_7 := hB4.c 7 rfl; have c4_8 := hB4.c 8 rfl; have c4_9 := hB4.c 9 rfl
 have c4_10 := hB4.c 10 rfl; go_wp2_with fail; refine (putsProof_any ps pA pc B 1 _ g _ hW4 (hT4.rd hxp hB) hB (fun y hy => (hxo y hy).below (hT4.low.mono hB)) (by omega) hs2).mono ?_; rintro e w5 ⟨rfl, hW5, hC5⟩; have hB5 := hC5.blk hB4 (by omega) (by decide); have hT5 := hT4.trans hC5; have hlt5 := hB5.lt; have hgl5 := hW5.lt; have ll5 := list_len Out.proof proofW Out.proof_lenW ps 1 S4; generalize S4.list ps 1 Out.proof = S5 at *; have c5_0 := hB5.c 0 rfl; have c5_1 := hB5.c 1 rfl; have c5_2 := hB5.c 2 rfl; have c5_3 := hB5.c 3 rfl; have c5_4 := hB5.c 4 rfl; have c5_5 := hB5.c 5 rfl; have c5_6 := hB5.c 6 rfl; have c5_7 := hB5.c 7 rfl; have c5_8 := hB5.c 8 rfl; have c5_9 := hB5.c 9 rfl; have c5_10 := hB5.c 10 rfl; go_wp2_with fail; refine (fields_any _ _).mono ?_; rintro e w' ⟨rfl, rfl⟩; have hK1 : Hid (txOk1 ⟨x1, x2, x3, x4, x5, x6, x7, x8, al, aA, ac, ss, sA, sc, ps, pA, pc⟩ = (decide (1 ≤ x1) && decide (x1 ≤ 10) && decide (1 ≤ x2) && (toF x1 == decide (1 ≤ x6)))) := rfl; have hK2 : Hid (txOk2 ⟨x1, x2, x3, x4, x5, x6, x7, x8, al, aA, ac, ss, sA, sc, ps, pA, pc⟩ = ((amountF x1 || decide (x7 = 0)) && (textF x1 || emp x8) && (argsF x1 || decide (al.length = 0)))) := rfl; have hK3 : Hid (txOk3 ⟨x1, x2, x3, x4, x5, x6, x7, x8, al, aA, ac, ss, sA, sc, ps, pA, pc⟩ = ((sightF x1 == decide (ss.length = 1)) && (proofF x1 == decide (ps.length = 1)))) := rfl; generalize toF x1 = q1 at *; generalize amountF x1 = q2 at *; generalize textF x1 = q3 at *; generalize argsF x1 = q4 at *; generalize sightF x1 = q5 at *; generalize proofF x1 = q6 at *; rw [hK1.out, hK2.out, hK3.out] at hE; have he1 : Hid (decide (ss.length = 1) = ((ss.length : Int) == 1)) := by show _ = _; rw [Bool.eq_iff_iff]; simp; omega
 have he2 : Hid (decide (ps.length = 1) = ((ps.length : Int) == 1)) := by show _ = _; rw [Bool.eq_iff_iff]; simp; omega
 go_upto_region 7 with fail
 go_cut [4, 74] (fun _ x wc => x = .tuple #[] ∧ Wrt wc g (S5.need (decide (1 ≤ x1) && decide (x1 ≤ 10) && decide (1 ≤ x2) && (q1 == decide (1 ≤ x6)))) ∧ Blk wc w.heap.size 94 #[.int .i64 x1, .int .i64 x2, .int .i64 x3, .int .i64 x4, .int .i64 x5, .int .i64 x6, .int .i64 x7, .string (bs x8), .slice aA al.length ac, .slice sA ss.length sc, .slice pA ps.length pc] ∧ Turned w wc g)
 case first =>
  go_wp2_with fail
  all_goals
   refine (need_any _ _ g _ hW5).mono ?_; rintro e w6 ⟨rfl, hW6, hC6⟩; go_wp2_with fail
   go_meet
   exact ⟨rfl, hW6.eq (by congr 1; first | rfl | grind | grind [emp]), hC6.blk hB5 (by omega) (by decide), hT5.trans hC6⟩
 case rest =>
  obtain ⟨w6, rfl⟩ : ∃ x : World, x = wc := ⟨_, rfl⟩
  obtain ⟨rfl, hW6, hB6, hT6⟩ := hcut; have hlt6 := hB6.lt; have hgl6 := hW6.lt; have ll6 : (S5.need (decide (1 ≤ x1) && decide (x1 ≤ 10) && decide (1 ≤ x2) && (q1 == decide (1 ≤ x6)))).b.length = S5.b.length := rfl; generalize S5.need (decide (1 ≤ x1) && decide (x1 ≤ 10) && decide (1 ≤ x2) && (q1 == decide (1 ≤ x6))) = S6 at *; have c6_0 := hB6.c 0 rfl; have c6_1 := hB6.c 1 rfl; have c6_2 := hB6.c 2 rfl; have c6_3 := hB6.c 3 rfl; have c6_4 := hB6.c 4 rfl; have c6_5 := hB6.c 5 rfl; have c6_6 := hB6.c 6 rfl; have c6_7 := hB6.c 7 rfl; have c6_8 := hB6.c 8 rfl; have c6_9 := hB6.c 9 rfl; have c6_10 := hB6.c 10 rfl
  go_upto_region 8 with fail
  go_cut [5, 6, 7, 99] (fun _ _ _ x wc => x = .tuple #[] ∧ Wrt wc g (S6.need ((q2 || decide (x7 = 0)) && (q3 || emp x8) && (q4 || decide (al.length = 0)))) ∧ Blk wc w.heap.size 94 #[.int .i64 x1, .int .i64 x2, .int .i64 x3, .int .i64 x4, .int .i64 x5, .int .i64 x6, .int .i64 x7, .string (bs x8), .slice aA al.length ac, .slice sA ss.length sc, .slice pA ps.length pc] ∧ Turned w wc g)
  case first =>
   go_wp2_with fail
   all_goals
    refine (need_any _ _ g _ hW6).mono ?_; rintro e w7 ⟨rfl, hW7, hC7⟩; go_wp2_with fail
    go_meet
    exact ⟨rfl, hW7.eq (by congr 1; first | rfl | grind | grind [emp]), hC7.blk hB6 (by omega) (by decide), hT6.trans hC7⟩
  case rest =>
   obtain ⟨w7, rfl⟩ : ∃ x : World, x = wc := ⟨_, rfl⟩
   obtain ⟨rfl, hW7, hB7, hT7⟩ := hcut; have hlt7 := hB7.lt; have hgl7 := hW7.lt; have ll7 : (S6.need ((q2 || decide (x7 = 0)) && (q3 || emp x8) && (q4 || decide (al.length = 0)))).b.length = S6.b.length := rfl; generalize S6.need ((q2 || decide (x7 = 0)) && (q3 || emp x8) && (q4 || decide (al.length = 0))) = S7 at *; have c7_0 := hB7.c 0 rfl; have c7_1 := hB7.c 1 rfl; have c7_2 := hB7.c 2 rfl; have c7_3 := hB7.c 3 rfl; have c7_4 := hB7.c 4 rfl; have c7_5 := hB7.c 5 rfl; have c7_6 := hB7.c 6 rfl; have c7_7 := hB7.c 7 rfl; have c7_8 := hB7.c 8 rfl; have c7_9 := hB7.c 9 rfl; have c7_10 := hB7.c 10 rfl; go_wp2_with fail
   all_goals
    refine (need_any _ _ g _ hW7).mono ?_; rintro e w8 ⟨rfl, hW8, hC8⟩; have hB8 := hC8.blk hB7 (by omega) (by decide); have hT8 := hT7.trans hC8; have hlt8 := hB8.lt; have hgl8 := hW8.lt; go_wp2_with fail
    go_end0
    exact ⟨rfl, Wrt.eq hW8 (by rw [hE.out, he1.out, he2.out]; congr 1; grind), hT8⟩
set_option maxRecDepth 100000 in
set_option maxHeartbeats 1000000 in
theorem rheader_any (x : HeaderD) (hx : x.ok) (w : World) (g : Nat) (S : Out) (h : Ref w g S) (hl : S.b.length + 2000 ≤ 70368744177000) :
  Calls Tryz.prog 94 #[.pointer (some ⟨g, 0, none⟩), x.val] w fun e w' => e = .returned (.tuple #[]) ∧ Ref w' g (S.header x) ∧ Turned w w' g := by
 have hgt := h.lt; have hE : Hid (S.header x = (((((((((S.num x.c).num x.h).dig x.p).dig x.t).dig x.g).dig x.s).dig x.r).dig x.b).num x.o)) := rfl; obtain ⟨x1, x2, x3, x4, x5, x6, x7, x8, x9⟩ := x; obtain ⟨⟨p0, p1⟩, ⟨t0, t1⟩, ⟨g0, g1⟩, ⟨s0, s1⟩, ⟨r0, r1⟩, ⟨b0, b1⟩⟩ := hx; dsimp only at p0 p1 t0 t1 g0 g1 s0 s1 r0 r1 b0 b1; dsimp only [HeaderD.val]; go_enter Tryz.func94, Tryz.ntmps94; go_wp2_with fail; refine (rnumber_any _ _ g _ (h.alloc _) (by omega)).mono ?_; rintro e w1 ⟨rfl, hW1, hC1⟩; have hB1 := hC1.blk (Blk.new _ _ _) (by omega) (by decide); have hT1 := ((Turned.refl w g).alloc (by omega) _).trans hC1; have hlt1 := hB1.lt; have hgl1 := hW1.lt; have ll1 := S.num_len x1; generalize S.num x1 = S1 at *; have c1_0 := hB1.c 0 rfl; have c1_1 := hB1.c 1 rfl; have c1_2 := hB1.c 2 rfl; have c1_3 := hB1.c 3 rfl; have c1_4 := hB1.c 4 rfl; have c1_5 := hB1.c 5 rfl; have c1_6 := hB1.c 6 rfl; have c1_7 := hB1.c 7 rfl; have c1_8 := hB1.c 8 rfl; go_wp2_with fail; refine (rnumber_any _ _ g _ hW1 (by omega)).mono ?_; rintro e w2 ⟨rfl, hW2, hC2⟩; have hB2 := hC2.blk hB1 (by omega) (by decide); have hT2 := hT1.trans hC2; have hlt2 := hB2.lt; have hgl2 := hW2.lt; have ll2 := S1.num_len x2; generalize S1.num x2 = S2 at *; have c2_0 := hB2.c 0 rfl; have c2_1 := hB2.c 1 rfl; have c2_2 := hB2.c 2 rfl; have c2_3 := hB2.c 3 rfl; have c2_4 := hB2.c 4 rfl; have c2_5 := hB2.c 5 rfl; have c2_6 := hB2.c 6 rfl; have c2_7 := hB2.c 7 rfl; have c2_8 := hB2.c 8 rfl; go_wp2_with fail; refine (rdigest_any _ _ g _ hW2 (by omega) (by omega) (by omega)).mono ?_; rintro e w3 ⟨rfl, hW3, hC3⟩; have hB3 := hC3.blk hB2 (by omega) (by decide); have hT3 := hT2.trans hC3; have hlt3 := hB3.lt; have hgl3 := hW3.lt; have ll3 := (by simp [Out.dig, be_len] : (S2.dig x3).b.length ≤ S2.b.length + 8)
 generalize S2.dig x3 = S3 at *; have c3_0 := hB3.c 0 rfl; have c3_1 := hB3.c 1 rfl; have c3_2 := hB3.c 2 rfl; have c3_3 := hB3.c 3 rfl; have c3_4 := hB3.c 4 rfl; have c3_5 := hB3.c 5 rfl; have c3_6 := hB3.c 6 rfl; have c3_7 := hB3.c 7 rfl; have c3_8 := hB3.c 8 rfl; go_wp2_with fail; refine (rdigest_any _ _ g _ hW3 (by omega) (by omega) (by omega)).mono ?_; rintro e w4 ⟨rfl, hW4, hC4⟩; have hB4 := hC4.blk hB3 (by omega) (by decide); have hT4 := hT3.trans hC4; have hlt4 := hB4.lt; have hgl4 := hW4.lt; have ll4 := (by simp [Out.dig, be_len] : (S3.dig x4).b.length ≤ S3.b.length + 8)
 generalize S3.dig x4 = S4 at *; have c4_0 := hB4.c 0 rfl; have c4_1 := hB4.c 1 rfl; have c4_2 := hB4.c 2 rfl; have c4_3 := hB4.c 3 rfl; have c4_4 := hB4.c 4 rfl; have c4_5 := hB4.c 5 rfl; have c4_6 := hB4.c 6 rfl; have c4_7 := hB4.c 7 rfl; have c4_8 := hB4.c 8 rfl; go_wp2_with fail; refine (rdigest_any _ _ g _ hW4 (by omega) (by omega) (by omega)).mono ?_; rintro e w5 ⟨rfl, hW5, hC5⟩; have hB5 := hC5.blk hB4 (by omega) (by decide); have hT5 := hT4.trans hC5; have hlt5 := hB5.lt; have hgl5 := hW5.lt; have ll5 := (by simp [Out.dig, be_len] : (S4.dig x5).b.length ≤ S4.b.length + 8)
 generalize S4.dig x5 = S5 at *; have c5_0 := hB5.c 0 rfl; have c5_1 := hB5.c 1 rfl; have c5_2 := hB5.c 2 rfl; have c5_3 := hB5.c 3 rfl; have c5_4 := hB5.c 4 rfl; have c5_5 := hB5.c 5 rfl; have c5_6 := hB5.c 6 rfl; have c5_7 := hB5.c 7 rfl; have c5_8 := hB5.c 8 rfl; go_wp2_with fail; refine (rdigest_any _ _ g _ hW5 (by omega) (by omega) (by omega)).mono ?_; rintro e w6 ⟨rfl, hW6, hC6⟩; have hB6 := hC6.blk hB5 (by omega) (by decide); have hT6 := hT5.trans hC6; have hlt6 := hB6.lt; have hgl6 := hW6.lt; have ll6 := (by simp [Out.dig, be_len] : (S5.dig x6).b.length ≤ S5.b.length + 8)
 generalize S5.dig x6 = S6 at *; have c6_0 := hB6.c 0 rfl; have c6_1 := hB6.c 1 rfl; have c6_2 := hB6.c 2 rfl; have c6_3 := hB6.c 3 rfl; have c6_4 := hB6.c 4 rfl; have c6_5 := hB6.c 5 rfl; have c6_6 := hB6.c 6 rfl; have c6_7 := hB6.c 7 rfl; have c6_8 := hB6.c 8 rfl; go_wp2_with fail; refine (rdigest_any _ _ g _ hW6 (by omega) (by omega) (by omega)).mono ?_; rintro e w7 ⟨rfl, hW7, hC7⟩; have hB7 := hC7.blk hB6 (by omega) (by decide); have hT7 := hT6.trans hC7; have hlt7 := hB7.lt; have hgl7 := hW7.lt; have ll7 := (by simp [Out.dig, be_len] : (S6.dig x7).b.length ≤ S6.b.length + 8)
 generalize S6.dig x7 = S7 at *; have c7_0 := hB7.c 0 rfl; have c7_1 := hB7.c 1 rfl; have c7_2 := hB7.c 2 rfl; have c7_3 := hB7.c 3 rfl; have c7_4 := hB7.c 4 rfl; have c7_5 := hB7.c 5 rfl; have c7_6 := hB7.c 6 rfl; have c7_7 := hB7.c 7 rfl; have c7_8 := hB7.c 8 rfl; go_wp2_with fail; refine (rdigest_any _ _ g _ hW7 (by omega) (by omega) (by omega)).mono ?_; rintro e w8 ⟨rfl, hW8, hC8⟩; have hB8 := hC8.blk hB7 (by omega) (by decide); have hT8 := hT7.trans hC8; have hlt8 := hB8.lt; have hgl8 := hW8.lt; have ll8 := (by simp [Out.dig, be_len] : (S7.dig x8).b.length ≤ S7.b.length + 8)
 generalize S7.dig x8 = S8 at *; have c8_0 := hB8.c 0 rfl; have c8_1 := hB8.c 1 rfl; have c8_2 := hB8.c 2 rfl; have c8_3 := hB8.c 3 rfl; have c8_4 := hB8.c 4 rfl; have c8_5 := hB8.c 5 rfl; have c8_6 := hB8.c 6 rfl; have c8_7 := hB8.c 7 rfl; have c8_8 := hB8.c 8 rfl; go_wp2_with fail; refine (rnumber_any _ _ g _ hW8 (by omega)).mono ?_; rintro e w9 ⟨rfl, hW9, hC9⟩; have hB9 := hC9.blk hB8 (by omega) (by decide); have hT9 := hT8.trans hC9; have hlt9 := hB9.lt; have hgl9 := hW9.lt; have ll9 := S8.num_len x9; generalize S8.num x9 = S9 at *; go_wp2_with fail
 go_end0
 exact ⟨rfl, Ref.eq hW9 (by rw [hE.out] <;> rfl), hT9⟩
def rfromOk (l : List Int) (k : Nat) : Bool := !(decide (l.getD k 0 < 1) || (decide (0 < k) && decide (l.getD k 0 ≤ l.getD (k - 1) 0)))
theorem Out.nums_far (l : List Int) (S : Out) (h : (l.foldl Out.num S).far = false) : S.far = false ∧ ∀ n ∈ l, 0 ≤ n := by
 induction l generalizing S with
 | nil => exact ⟨h, by simp⟩
 | cons x l ih =>
  rw [List.foldl_cons] at h; obtain ⟨h1, h2⟩ := ih _ h; have h3 : (S.far || farN x) = false := h1; simp only [Bool.or_eq_false_iff] at h3; have h4 := h3.2; simp [farN] at h4; exact ⟨h3.1, fun s hs => by
   rcases List.mem_cons.1 hs with rfl | hs
   ·exact h4.1
   ·exact h2 s hs⟩
theorem from_oks (l : List Int) (h : ∀ s ∈ l, 0 ≤ s) : allTo (rfromOk l) l.length = allTo (fromOk l) l.length := by
 refine allTo_congr _ _ _ fun k hk => ?_
 have h1 := h l[k] (List.getElem_mem hk); unfold rfromOk fromOk prevI
 rcases Nat.eq_zero_or_pos k with h0 | h0
 ·subst h0; simp [List.getElem?_eq_getElem hk]
  grind
 ·have h2 := h l[k - 1] (List.getElem_mem (by omega)); simp [List.getElem?_eq_getElem hk, List.getElem?_eq_getElem (show k - 1 < l.length by omega), show ¬ k = 0 by omega, h0]
  grind
theorem Out.cert_eq {w : World} {g : Nat} {S : Out} (x : CertD) (h : Ref w g ((((x.froms.foldl Out.num ((((((((S.num x.h).num x.r).num x.s).flag x.has).dig x.b).lim x.froms.length 7).num x.froms.length)))).need (certOk x)).need (allTo (rfromOk x.froms) x.froms.length))) : Ref w g (S.cert x) :=
 h.ifNear rfl (Nat.le_refl _) fun hf => ⟨rfl, by
  have := (Out.nums_far x.froms _ hf).2; show (_ || _) = (_ || _); rw [from_oks x.froms this]; rfl⟩
set_option maxRecDepth 100000 in
set_option maxHeartbeats 2000000 in
theorem rcert_any (x : CertD) (B : Nat) (w : World) (g : Nat) (S : Out) (h : Ref w g S) (hl : S.b.length + 40 * certM x ≤ 59000000000000) (hx : x.held w B) (hB : B ≤ g) :
  Calls Tryz.prog 82 #[.pointer (some ⟨g, 0, none⟩), x.val] w fun e w' => e = .returned (.tuple #[]) ∧ Ref w' g (S.cert x) ∧ Turned w w' g := by
 have hgt := h.lt; simp only [certM] at hl; obtain ⟨x1, x2, x3, x4, x5, x6, x6a, x6c⟩ := x; dsimp only at hl hx; have hEQ := fun w' => @Out.cert_eq w' g S ⟨x1, x2, x3, x4, x5, x6, x6a, x6c⟩
 dsimp only at hEQ; have HEQ := Lib.hid hEQ; clear hEQ; have hLL : ∀ S' : Out, (S'.lim x6.length 7).b.length = S'.b.length := fun _ => rfl
 dsimp only [CertD.val]; obtain ⟨⟨hx0, hx1⟩, hxr, hxs⟩ := hx; dsimp only at hx0 hx1 hxr hxs; have hmm := hxs; unfold maxLen at hmm; go_enter Tryz.func82, Tryz.ntmps82; go_wp2_with fail; generalize Value.agg #[.int .i64 x1, .int .i64 x2, .int .i64 x3, .bool x4, .int .u64 x5, .slice x6a x6.length x6c] = V; refine (rnumber_any _ _ g _ (h.alloc _) (by omega)).mono ?_; rintro e w1 ⟨rfl, hW1, hC1⟩; have hB1 := hC1.blk (Blk.new _ _ _) (by omega) (by decide); have hT1 := ((Turned.refl w g).alloc (by omega) _).trans hC1; have hlt1 := hB1.lt; have hgl1 := hW1.lt; have ll1 := S.num_len x1; generalize S.num x1 = S1 at *; have c1_0 := hB1.c 0 rfl; have c1_1 := hB1.c 1 rfl; have c1_2 := hB1.c 2 rfl; have c1_3 := hB1.c 3 rfl; have c1_4 := hB1.c 4 rfl; have c1_5 := hB1.c 5 rfl; go_wp2_with fail; refine (rnumber_any _ _ g _ hW1 (by omega)).mono ?_; rintro e w2 ⟨rfl, hW2, hC2⟩; have hB2 := hC2.blk hB1 (by omega) (by decide); have hT2 := hT1.trans hC2; have hlt2 := hB2.lt; have hgl2 := hW2.lt; have ll2 := S1.num_len x2; generalize S1.num x2 = S2 at *; have c2_0 := hB2.c 0 rfl; have c2_1 := hB2.c 1 rfl; have c2_2 := hB2.c 2 rfl; have c2_3 := hB2.c 3 rfl; have c2_4 := hB2.c 4 rfl; have c2_5 := hB2.c 5 rfl; go_wp2_with fail; refine (rnumber_any _ _ g _ hW2 (by omega)).mono ?_; rintro e w3 ⟨rfl, hW3, hC3⟩; have hB3 := hC3.blk hB2 (by omega) (by decide); have hT3 := hT2.trans hC3; have hlt3 := hB3.lt; have hgl3 := hW3.lt; have ll3 := S2.num_len x3; generalize S2.num x3 = S3 at *; have c3_0 := hB3.c 0 rfl; have c3_1 := hB3.c 1 rfl; have c3_2 := hB3.c 2 rfl; have c3_3 := hB3.c 3 rfl; have c3_4 := hB3.c 4 rfl; have c3_5 := hB3.c 5 rfl; go_wp2_with fail; refine (rflag_any _ _ g _ hW3 (by omega)).mono ?_; rintro e w4 ⟨rfl, hW4, hC4⟩; have hB4 := hC4.blk hB3 (by omega) (by decide); have hT4 := hT3.trans hC4; have hlt4 := hB4.lt; have hgl4 := hW4.lt; have ll4 := (by simp [Out.flag] : (S3.flag x4).b.length ≤ S3.b.length + 1)
 generalize S3.flag x4 = S4 at *; have c4_0 := hB4.c 0 rfl; have c4_1 := hB4.c 1 rfl; have c4_2 := hB4.c 2 rfl; have c4_3 := hB4.c 3 rfl; have c4_4 := hB4.c 4 rfl; have c4_5 := hB4.c 5 rfl; go_wp2_with fail; refine (rdigest_any _ _ g _ hW4 (by omega) (by omega) (by omega)).mono ?_; rintro e w5 ⟨rfl, hW5, hC5⟩; have hB5 := hC5.blk hB4 (by omega) (by decide); have hT5 := hT4.trans hC5; have hlt5 := hB5.lt; have hgl5 := hW5.lt; have ll5 := (by simp [Out.dig, be_len] : (S4.dig x5).b.length ≤ S4.b.length + 8)
 generalize S4.dig x5 = S5 at *; have c5_0 := hB5.c 0 rfl; have c5_1 := hB5.c 1 rfl; have c5_2 := hB5.c 2 rfl; have c5_3 := hB5.c 3 rfl; have c5_4 := hB5.c 4 rfl; have c5_5 := hB5.c 5 rfl; have hsw : sumL numW x6 = 6 * x6.length := sumL_const 6 x6; go_wp2_with fail; refine (rcount_any _ _ _ g _ hW5 (by omega)).mono ?_; rintro e w6 ⟨rfl, hW6, hC6⟩; have hB6 := hC6.blk hB5 (by omega) (by decide); have hT6 := hT5.trans hC6; have hlt6 := hB6.lt; have hgl6 := hW6.lt; have ll6 := (S5.lim x6.length 7).num_len x6.length; have hb5 : (S5.lim x6.length 7).b.length = S5.b.length := rfl; generalize (S5.lim x6.length 7).num x6.length = S6 at *; have c6_0 := hB6.c 0 rfl; have c6_1 := hB6.c 1 rfl; have c6_2 := hB6.c 2 rfl; have c6_3 := hB6.c 3 rfl; have c6_4 := hB6.c 4 rfl; have c6_5 := hB6.c 5 rfl
 go_upto_region 7 with fail
 go_cut [39] (fun x wc => x = .tuple #[] ∧ Ref wc g (S6.need (!(!decide (x3 = 1) && !decide (x3 = 2)))) ∧ Blk wc w.heap.size 62 #[.int .i64 x1, .int .i64 x2, .int .i64 x3, .bool x4, .int .u64 x5, .slice x6a x6.length x6c] ∧ Turned w wc g)
 case first =>
  go_wp2_with fail
  all_goals
   refine (rneed_any _ _ g _ hW6).mono ?_; rintro e w7 ⟨rfl, hW7, hC7⟩; go_wp2_with fail
   go_meet
   exact ⟨rfl, hW7.eq (by congr 1; first | rfl | grind | grind [emp]), hC7.blk hB6 (by omega) (by decide), hT6.trans hC7⟩
 case rest =>
  obtain ⟨w7, rfl⟩ : ∃ x : World, x = wc := ⟨_, rfl⟩
  obtain ⟨rfl, hW7, hB7, hT7⟩ := hcut; have hlt7 := hB7.lt; have hgl7 := hW7.lt; have ll7 : (S6.need (!(!decide (x3 = 1) && !decide (x3 = 2)))).b.length = S6.b.length := rfl; generalize hS7 : S6.need (!(!decide (x3 = 1) && !decide (x3 = 2))) = S7 at *; have HS7 := Lib.hid hS7; clear hS7; have c7_0 := hB7.c 0 rfl; have c7_1 := hB7.c 1 rfl; have c7_2 := hB7.c 2 rfl; have c7_3 := hB7.c 3 rfl; have c7_4 := hB7.c 4 rfl; have c7_5 := hB7.c 5 rfl
  go_upto_region 8 with fail
  go_cut [49] (fun x wc => x = .tuple #[] ∧ Ref wc g (S7.need (!(!x4 && !decide (x5 = 0)))) ∧ Blk wc w.heap.size 62 #[.int .i64 x1, .int .i64 x2, .int .i64 x3, .bool x4, .int .u64 x5, .slice x6a x6.length x6c] ∧ Turned w wc g)
  case first =>
   go_wp2_with fail
   all_goals
    refine (rneed_any _ _ g _ hW7).mono ?_; rintro e w8 ⟨rfl, hW8, hC8⟩; go_wp2_with fail
    go_meet
    exact ⟨rfl, hW8.eq (by congr 1; first | rfl | grind | grind [emp]), hC8.blk hB7 (by omega) (by decide), hT7.trans hC8⟩
  case rest =>
   obtain ⟨w8, rfl⟩ : ∃ x : World, x = wc := ⟨_, rfl⟩
   obtain ⟨rfl, hW8, hB8, hT8⟩ := hcut; have hlt8 := hB8.lt; have hgl8 := hW8.lt; have ll8 : (S7.need (!(!x4 && !decide (x5 = 0)))).b.length = S7.b.length := rfl; generalize hS8 : S7.need (!(!x4 && !decide (x5 = 0))) = S8 at *; have HS8 := Lib.hid hS8; clear hS8; have c8_0 := hB8.c 0 rfl; have c8_1 := hB8.c 1 rfl; have c8_2 := hB8.c 2 rfl; have c8_3 := hB8.c 3 rfl; have c8_4 := hB8.c 4 rfl; have c8_5 := hB8.c 5 rfl; have HS67 : Hid (S8 = S6.need (certOk ⟨x1, x2, x3, x4, x5, x6, x6a, x6c⟩)) := by
    show S8 = _; rw [← HS8.out, ← HS7.out, Out.need_need]
    congr 1
    simp only [certOk]; cases x4 <;> simp
   go_wp2_with fail
   go_loopw [4] (fun i wr => ∃ j : Nat, i = .int .i64 (j : Int) ∧ j ≤ x6.length ∧ Ref wr g ((((x6.take j).foldl Out.num S6).need (certOk ⟨x1, x2, x3, x4, x5, x6, x6a, x6c⟩)).need (allTo (rfromOk x6) j)) ∧ Blk wr w.heap.size 62 #[.int .i64 x1, .int .i64 x2, .int .i64 x3, .bool x4, .int .u64 x5, .slice x6a x6.length x6c] ∧ Turned w wr g) (fun i _ => x6.length - (intOf i).toNat)
   case atStart => exact ⟨0, rfl, by omega, by rw [show allTo (rfromOk x6) 0 = true from rfl, Out.need_true]; exact hW8.eq HS67.out, hB8, hT8⟩
   case round =>
    obtain ⟨j, rfl, hj, hW, hBx, hT⟩ := hrel; have hgw := hW.lt; have k5 := hBx.c 5 rfl
    by_cases hlt : j < x6.length
    ·have hji : (j : Int) < (x6.length : Int) := by omega
     obtain ⟨b, off, rfl, hbB, d0⟩ := Ints.at_ (hT.rd hxr hB) hlt; have hlow := hT.rd hxr hB; have HSn := Lib.hid (fold_take Out.num S6 x6 j hlt); have hle := fold_len Out.num numW Out.num_lenW (x6.take j) S6; have hle2 := sumL_take numW x6 j hlt; have hs : Hid (rfromOk x6 j = !(decide (x6[j] < 1) || (decide (0 < j) && decide (x6[j] ≤ x6.getD (j - 1) 0)))) := by show _ = _; simp [rfromOk, List.getElem?_eq_getElem hlt]
     have hs2 : Hid (allTo (rfromOk x6) (j + 1) = (allTo (rfromOk x6) j && rfromOk x6 j)) := rfl; generalize hy : x6[j] = y at *; clear hy; generalize (x6.take j).foldl Out.num S6 = SF at *; generalize allTo (rfromOk x6) j = ok at *; generalize certOk ⟨x1, x2, x3, x4, x5, x6, some ⟨b, off, none⟩, x6c⟩ = ck at *; have hbn : ((SF.need ck).need ok).b.length = SF.b.length := rfl; go_wp2_with fail; refine (rnumber_any _ _ g _ hW (by omega)).mono ?_; rintro e w9 ⟨rfl, hW9, hC9⟩; have hB9 := hC9.blk hBx (by omega) (by decide); rw [Out.need_num, Out.need_num] at hW9; have k9 : w9.drew.cell? ⟨w.heap.size, 5, none⟩ = some (Value.slice (some ⟨b, off, none⟩) x6.length x6c) := hB9.c 5 rfl; have d9 : w9.drew.cell? ⟨b, off + j, none⟩ = some (.int .i64 y) := (hC9.low.cell (by simp; omega)).trans d0; have hfin : ∀ (bad : Bool) (w5 : World), bad = (decide (y < 1) || (decide (0 < j) && decide (y ≤ x6.getD (j - 1) 0))) → Ref w5 g ((((SF.num y).need ck).need ok).need (!bad)) → Ref w5 g ((((x6.take (j + 1)).foldl Out.num S6).need ck).need (allTo (rfromOk x6) (j + 1))) := by
      intro bad w5 hbad hW5; refine hW5.eq ?_; rw [Out.need_need ((SF.num y).need ck), hs2.out, hs.out, HSn.out, hbad]
     have HF := Lib.hid hfin; clear hfin hs hs2
     by_cases h1 : y < 1
     ·go_wp2_with fail; refine wp_region_tail 25 (by kernel_rfl) (by kernel_rfl) ?_; simp only [List.take_succ_cons, List.take_zero, List.drop_succ_cons, List.drop_zero]
      repeat (go_big_quiet_step (fail))
      refine wpQuiet_nil ?_; go_wp2_with fail; refine (rneed_any _ _ g _ hW9.drew).mono ?_; rintro e w10 ⟨rfl, hW10, hT10⟩; have hB10 := hT10.blk hB9.drew (by omega) (by decide); go_wp2_with fail
      go_roundw
      case rel => exact ⟨j + 1, by go_num, by omega, HF.out _ _ (by grind) hW10, hB10, (hT.trans hC9).drew.trans hT10⟩
      case measure => simp [intOf]; omega
     have h1d : decide (y < 1) = false := decide_eq_false h1
     by_cases h3 : 0 < j
     ·have h3i : (0 : Int) < (j : Int) := by omega
      have hj1 : j - 1 < x6.length := by omega
      obtain ⟨b', off', e', _, dp⟩ := Ints.at_ hlow hj1; simp only [Option.some.injEq, Addr.mk.injEq, and_true] at e'; obtain ⟨rfl, rfl⟩ := e'; have hp : x6.getD (j - 1) 0 = x6[j - 1] := by simp [List.getElem?_eq_getElem hj1]
      have dp9 : w9.drew.cell? ⟨b, off + (j - 1), none⟩ = some (.int .i64 x6[j - 1]) := (hC9.low.cell (by simp; omega)).trans dp; clear dp; rw [hp] at HF; generalize x6[j - 1] = z at *; have hw1 : IntKind.i64.wrap ((j : Int) - 1) = ((j - 1 : Nat) : Int) := by rw [IntWalk.i64_in _ (by omega)]; omega
      have hj1i : ((j - 1 : Nat) : Int) < (x6.length : Int) := by omega
      go_wp2_with fail; refine wp_region_tail 25 (by kernel_rfl) (by kernel_rfl) ?_; simp only [List.take_succ_cons, List.take_zero, List.drop_succ_cons, List.drop_zero]
      repeat (go_big_quiet_step (fail))
      refine wpQuiet_nil ?_; go_wp2_with fail; refine (rneed_any _ _ g _ hW9.drew).mono ?_; rintro e w10 ⟨rfl, hW10, hT10⟩; have hB10 := hT10.blk hB9.drew (by omega) (by decide); go_wp2_with fail
      go_roundw
      case rel => exact ⟨j + 1, by go_num, by omega, HF.out _ _ (by grind) hW10, hB10, (hT.trans hC9).drew.trans hT10⟩
      case measure => simp [intOf]; omega
     ·have h3d : decide ((0 : Int) < (j : Int)) = false := decide_eq_false (by omega); go_wp2_with fail; refine wp_region_tail 25 (by kernel_rfl) (by kernel_rfl) ?_; simp only [List.take_succ_cons, List.take_zero, List.drop_succ_cons, List.drop_zero]
      repeat (go_big_quiet_step (fail))
      refine wpQuiet_nil ?_; go_wp2_with fail; refine (rneed_any _ _ g _ hW9.drew).mono ?_; rintro e w10 ⟨rfl, hW10, hT10⟩; have hB10 := hT10.blk hB9.drew (by omega) (by decide); go_wp2_with fail
      go_roundw
      case rel => exact ⟨j + 1, by go_num, by omega, HF.out _ _ (by grind) hW10, hB10, (hT.trans hC9).drew.trans hT10⟩
      case measure => simp [intOf]; omega
    ·have hji : ¬ (j : Int) < (x6.length : Int) := by omega
     have hjl : j = x6.length := by omega
     subst hjl; rw [List.take_of_length_le (Nat.le_refl _)] at hW; go_wp2_with fail
     go_end0
     exact ⟨rfl, HEQ.out _ hW, hT⟩
theorem Ref.setFar {w : World} {g : Nat} {S : Out} (h : Ref w g S) (n m : Int) (hm : m < n) : Ref (w.setCell ⟨g, 1, none⟩ (.bool true)) g (S.lim n m) := by
 obtain ⟨l, o, hb, hln, ho⟩ := h; refine ⟨l, o, by simpa [Out.lim, hm] using hb.set_ 1 (.bool true), hln, fun hf => ?_⟩; simp [Out.lim, hm] at hf
theorem Out.need_dig (S : Out) (a : Bool) (n : Int) : (S.need a).dig n = (S.dig n).need a := rfl
theorem Out.need_lim (S : Out) (a : Bool) (n m : Int) : (S.need a).lim n m = (S.lim n m).need a := rfl
theorem Out.need_flag (S : Out) (a b : Bool) : (S.need a).flag b = (S.flag b).need a := rfl
theorem Out.need_text (S : Out) (a : Bool) (s : List UInt8) (m : Int) : (S.need a).text s m = (S.text s m).need a := rfl
def rturnOkAt (l : List TurnD) (k : Nat) : Bool := !(decide (0 < k) && decide ((l.getD k ⟨0, 0⟩).p ≤ (l.getD (k - 1) ⟨0, 0⟩).p))
theorem Out.turns_far (l : List TurnD) (S : Out) (h : (l.foldl Out.turn S).far = false) : S.far = false ∧ ∀ n ∈ l, 0 ≤ n.p := by
 induction l generalizing S with
 | nil => exact ⟨h, by simp⟩
 | cons x l ih =>
  rw [List.foldl_cons] at h; obtain ⟨h1, h2⟩ := ih _ h; have h3 : ((S.far || farN x.p) || decide (287 < x.p)) = false := h1; simp only [Bool.or_eq_false_iff] at h3; have h4 := h3.1.2; simp [farN] at h4; exact ⟨h3.1.1, fun s hs => by
   rcases List.mem_cons.1 hs with rfl | hs
   ·exact h4.1
   ·exact h2 s hs⟩
theorem turn_oks (l : List TurnD) (h : ∀ s ∈ l, 0 ≤ s.p) : allTo (rturnOkAt l) l.length = allTo (turnOkAt l) l.length := by
 refine allTo_congr _ _ _ fun k hk => ?_
 have h1 := h l[k] (List.getElem_mem hk); unfold rturnOkAt turnOkAt prevT
 rcases Nat.eq_zero_or_pos k with h0 | h0
 ·subst h0; simp [List.getElem?_eq_getElem hk]
  grind
 ·have h2 := h l[k - 1] (List.getElem_mem (by omega)); simp [List.getElem?_eq_getElem hk, List.getElem?_eq_getElem (show k - 1 < l.length by omega), show ¬ k = 0 by omega, h0]
  grind
theorem Out.proof_eq {w : World} {g : Nat} {S : Out} (x : ProofD) (h : Ref w g (((((((x.turns.foldl Out.turn ((S.lim x.turns.length 288).num x.turns.length)).flag x.leaf).text x.key 32).text x.value 4096)).need (proofOk x)).need (allTo (rturnOkAt x.turns) x.turns.length))) : Ref w g (S.proof x) :=
 h.ifNear rfl (Nat.le_refl _) fun hf => ⟨rfl, by
  have h1 : ((((x.turns.foldl Out.turn ((S.lim x.turns.length 288).num x.turns.length)).far || decide (32 < (x.key.length : Int))) || farN x.key.length) || decide (4096 < (x.value.length : Int)) || farN x.value.length) = false := hf; simp only [Bool.or_eq_false_iff] at h1; have := (Out.turns_far x.turns _ h1.1.1.1.1).2; show ((_ || !proofOk x) || !allTo (rturnOkAt x.turns) x.turns.length) = ((_ || !allTo (turnOkAt x.turns) x.turns.length) || !proofOk x); rw [turn_oks x.turns this, Bool.or_assoc, Bool.or_assoc, Bool.or_comm (!proofOk x)]; rfl⟩
set_option maxRecDepth 100000 in
set_option maxHeartbeats 4000000 in
theorem rproof_any (x : ProofD) (B : Nat) (w : World) (g : Nat) (S : Out) (h : Ref w g S) (hl : S.b.length + 40 * proofM x ≤ 59000000000000) (hx : x.held w B) (hB : B ≤ g) :
  Calls Tryz.prog 100 #[.pointer (some ⟨g, 0, none⟩), x.val] w fun e w' => e = .returned (.tuple #[]) ∧ Ref w' g (S.proof x) ∧ Turned w w' g := by
 have hgt := h.lt; simp only [proofM, turns_M] at hl; have hK : Hid (proofOk x = ((x.leaf && !emp x.value) || (!x.leaf && decide (x.turns.length = 0) && emp x.key && emp x.value))) := rfl; obtain ⟨ts, tA, tc, x2, x3, x4⟩ := x; dsimp only at hl; have hEQ := fun w' => @Out.proof_eq w' g S ⟨ts, tA, tc, x2, x3, x4⟩
 dsimp only at hEQ; have HEQ := Lib.hid hEQ; clear hEQ; dsimp only [ProofD.val]; obtain ⟨hxr, hxs, hxd⟩ := hx; dsimp only at hxr hxs hxd; have hmm := hxs; unfold maxLen at hmm; have hsw := turns_W ts; have hbl : (S.lim ts.length 288).b.length = S.b.length := rfl; go_enter Tryz.func100, Tryz.ntmps100; go_wp2_with fail; refine (rcount_any _ _ _ g _ (h.alloc _) (by omega)).mono ?_; rintro e w1 ⟨rfl, hW1, hC1⟩; have hB1 := hC1.blk (Blk.new _ _ _) (by omega) (by decide); have hT1 := ((Turned.refl w g).alloc (by omega) _).trans hC1; have hlt1 := hB1.lt; have hgl1 := hW1.lt; have ll1 := (S.lim ts.length 288).num_len ts.length; generalize (S.lim ts.length 288).num ts.length = S1 at *; have c1_0 := hB1.c 0 rfl; have c1_1 := hB1.c 1 rfl; have c1_2 := hB1.c 2 rfl; have c1_3 := hB1.c 3 rfl; go_wp2_with fail
 go_loopw [4] (fun i wr => ∃ j : Nat, i = .int .i64 (j : Int) ∧ j ≤ ts.length ∧ Ref wr g (((ts.take j).foldl Out.turn S1).need (allTo (rturnOkAt ts) j)) ∧ Blk wr w.heap.size 87 #[.slice tA ts.length tc, .bool x2, .string (bs x3), .string (bs x4)] ∧ Turned w wr g) (fun i _ => ts.length - (intOf i).toNat)
 case atStart => exact ⟨0, rfl, by omega, by rw [show allTo (rturnOkAt ts) 0 = true from rfl, Out.need_true]; exact hW1, hB1, hT1⟩
 case round =>
  obtain ⟨j, rfl, hj, hW, hBx, hT⟩ := hrel; have hgw := hW.lt; have k0_0 : wr.cell? ⟨w.heap.size, 0, none⟩ = some (Value.slice tA ts.length tc) := hBx.c 0 rfl; have k0_1 : wr.cell? ⟨w.heap.size, 1, none⟩ = some (Value.bool x2) := hBx.c 1 rfl; have k0_2 : wr.cell? ⟨w.heap.size, 2, none⟩ = some (Value.string (bs x3)) := hBx.c 2 rfl; have k0_3 : wr.cell? ⟨w.heap.size, 3, none⟩ = some (Value.string (bs x4)) := hBx.c 3 rfl
  by_cases hlt : j < ts.length
  ·have hji : (j : Int) < (ts.length : Int) := by omega
   obtain ⟨b, off, rfl, hbB, hc⟩ := TurnsL.at_ (hT.rd hxr hB) hlt; have hlow := hT.rd hxr hB; have HSn := Lib.hid (fold_take Out.turn S1 ts j hlt); have hle := fold_len Out.turn turnW Out.turn_lenW (ts.take j) S1; have hle2 := sumL_take turnW ts j hlt; have htw : turnW ts[j] = 14 := rfl; have hdk := hxd ts[j] (List.getElem_mem hlt); have hs : Hid (rturnOkAt ts j = !(decide (0 < j) && decide (ts[j].p ≤ (ts.getD (j - 1) ⟨0, 0⟩).p))) := by show _ = _; simp [rturnOkAt, List.getElem?_eq_getElem hlt]
   have hs2 : Hid (allTo (rturnOkAt ts) (j + 1) = (allTo (rturnOkAt ts) j && rturnOkAt ts j)) := rfl; have d0 : wr.cell? ⟨b, off + j * 2, none⟩ = some (.int .i64 ts[j].p) := hc 0 _ rfl; have d1 : wr.cell? ⟨b, off + j * 2 + 1, none⟩ = some (.int .u64 ts[j].d) := hc 1 _ rfl; generalize hy : ts[j] = y at *; clear hy hc; obtain ⟨hd0, hd1⟩ := hdk; generalize (ts.take j).foldl Out.turn S1 = SF at *; generalize allTo (rturnOkAt ts) j = ok at *; have hbn : (SF.need ok).b.length = SF.b.length := rfl; have hfin : ∀ (bad : Bool) (w5 : World), bad = (decide (0 < j) && decide (y.p ≤ (ts.getD (j - 1) ⟨0, 0⟩).p)) → Ref w5 g ((((((SF.num y.p).dig y.d).lim y.p 287).need ok)).need (!bad)) → Ref w5 g (((ts.take (j + 1)).foldl Out.turn S1).need (allTo (rturnOkAt ts) (j + 1))) := by
    intro bad w5 hbad hW5; refine hW5.eq ?_; rw [Out.need_need, hs2.out, hs.out, HSn.out, hbad]; rfl
   have HF := Lib.hid hfin; clear hfin hs hs2; go_wp2_with fail; refine (rnumber_any _ _ g _ hW (by omega)).mono ?_; rintro e w9 ⟨rfl, hW9, hC9⟩; have hB9 := hC9.blk hBx (by omega) (by decide); rw [Out.need_num] at hW9; have l9 := SF.num_len y.p; generalize SF.num y.p = SG at *; have hbn2 : (SG.need ok).b.length = SG.b.length := rfl; have k9 : w9.cell? ⟨w.heap.size, 0, none⟩ = some (Value.slice (some ⟨b, off, none⟩) ts.length tc) := hB9.c 0 rfl; have d9 : w9.cell? ⟨b, off + j * 2 + 1, none⟩ = some (.int .u64 y.d) := (hC9.low.cell (by simp; omega)).trans d1; go_wp2_with fail; refine (rdigest_any _ _ g _ hW9 (by omega) (by omega) (by omega)).mono ?_; rintro e w11 ⟨rfl, hW11, hC11⟩; have hB11 := hC11.blk hB9 (by omega) (by decide); rw [Out.need_dig] at hW11; have hT11 := (hT.trans hC9).trans hC11; have hL11 := (hC9.trans hC11).low; have k11 : w11.cell? ⟨w.heap.size, 0, none⟩ = some (Value.slice (some ⟨b, off, none⟩) ts.length tc) := hB11.c 0 rfl; have d11 : w11.cell? ⟨b, off + j * 2, none⟩ = some (.int .i64 y.p) := (hL11.cell (by simp; omega)).trans d0
   by_cases h2 : 287 < y.p
   ·have hW12 := hW11.setFar y.p 287 h2; rw [Out.need_lim] at hW12; have f11 : w11.frozen? ⟨g, 1, none⟩ = false := by obtain ⟨l, o, hb, _⟩ := hW11; exact hb.frozen 1
    have e11 : ∃ v, w11.cell? ⟨g, 1, none⟩ = some v := by obtain ⟨l, o, hb, _⟩ := hW11; exact ⟨_, hb.cell 1⟩
    obtain ⟨v11, e11⟩ := e11; have hB12 := hB11.far (p := ⟨g, 1, none⟩) (by simp; omega) (Value.bool true); have hT12 := hT11.setCell 1 (Value.bool true); have hL12 := (hC9.trans (hC11.setCell 1 (Value.bool true))).low; go_wp2_with fail; generalize hww : w11.setCell ⟨g, 1, none⟩ (Value.bool true) = w12 at *; clear hww; have k12 : w12.drew.cell? ⟨w.heap.size, 0, none⟩ = some (Value.slice (some ⟨b, off, none⟩) ts.length tc) := hB12.c 0 rfl; have d12 : w12.drew.cell? ⟨b, off + j * 2, none⟩ = some (.int .i64 y.p) := (hL12.cell (by simp; omega)).trans d0
    by_cases h3 : 0 < j
    ·have h3i : (0 : Int) < (j : Int) := by omega
     have hj1 : j - 1 < ts.length := by omega
     obtain ⟨b', off', e', _, hc'⟩ := TurnsL.at_ hlow hj1; simp only [Option.some.injEq, Addr.mk.injEq, and_true] at e'; obtain ⟨rfl, rfl⟩ := e'; have hp : (ts.getD (j - 1) ⟨0, 0⟩).p = ts[j - 1].p := by simp [List.getElem?_eq_getElem hj1]
     have dp9 : w12.drew.cell? ⟨b, off + (j - 1) * 2, none⟩ = some (.int .i64 ts[j - 1].p) := (hL12.cell (by simp; omega)).trans (hc' 0 _ rfl); clear hc'; rw [hp] at HF; generalize ts[j - 1].p = z at *; have hw1 : IntKind.i64.wrap ((j : Int) - 1) = ((j - 1 : Nat) : Int) := by rw [IntWalk.i64_in _ (by omega)]; omega
     have hj1i : ((j - 1 : Nat) : Int) < (ts.length : Int) := by omega
     go_wp2_with fail; refine wp_region_tail 19 (by kernel_rfl) (by kernel_rfl) ?_; simp only [List.take_succ_cons, List.take_zero, List.drop_succ_cons, List.drop_zero]
     repeat (go_big_quiet_step (fail))
     refine wpQuiet_nil ?_; go_wp2_with fail; refine (rneed_any _ _ g _ hW12.drew).mono ?_; rintro e w13 ⟨rfl, hW13, hC13⟩; have hB13 := hC13.blk hB12.drew (by omega) (by decide); go_wp2_with fail
     go_roundw
     case rel => exact ⟨j + 1, by go_num, by omega, HF.out _ _ (by grind) hW13, hB13, hT12.drew.trans hC13⟩
     case measure => simp [intOf]; omega
    ·have h3d : decide ((0 : Int) < (j : Int)) = false := decide_eq_false (by omega); go_wp2_with fail; refine wp_region_tail 19 (by kernel_rfl) (by kernel_rfl) ?_; simp only [List.take_succ_cons, List.take_zero, List.drop_succ_cons, List.drop_zero]
     repeat (go_big_quiet_step (fail))
     refine wpQuiet_nil ?_; go_wp2_with fail; refine (rneed_any _ _ g _ hW12.drew).mono ?_; rintro e w13 ⟨rfl, hW13, hC13⟩; have hB13 := hC13.blk hB12.drew (by omega) (by decide); go_wp2_with fail
     go_roundw
     case rel => exact ⟨j + 1, by go_num, by omega, HF.out _ _ (by grind) hW13, hB13, hT12.drew.trans hC13⟩
     case measure => simp [intOf]; omega
   ·have hW12 := hW11; rw [show ((SG.dig y.d).need ok) = (((SG.dig y.d).lim y.p 287).need ok) by simp [Out.lim, h2]] at hW12; have hB12 := hB11; have hT12 := hT11; have hL12 := hL11; have h2i : ¬ (288 : Int) ≤ y.p := by omega
    go_wp2_with fail; obtain ⟨w12, hw12⟩ : ∃ x : World, x = w11 := ⟨_, rfl⟩
    subst hw12; have k12 : w12.drew.cell? ⟨w.heap.size, 0, none⟩ = some (Value.slice (some ⟨b, off, none⟩) ts.length tc) := hB12.c 0 rfl; have d12 : w12.drew.cell? ⟨b, off + j * 2, none⟩ = some (.int .i64 y.p) := (hL12.cell (by simp; omega)).trans d0
    by_cases h3 : 0 < j
    ·have h3i : (0 : Int) < (j : Int) := by omega
     have hj1 : j - 1 < ts.length := by omega
     obtain ⟨b', off', e', _, hc'⟩ := TurnsL.at_ hlow hj1; simp only [Option.some.injEq, Addr.mk.injEq, and_true] at e'; obtain ⟨rfl, rfl⟩ := e'; have hp : (ts.getD (j - 1) ⟨0, 0⟩).p = ts[j - 1].p := by simp [List.getElem?_eq_getElem hj1]
     have dp9 : w12.drew.cell? ⟨b, off + (j - 1) * 2, none⟩ = some (.int .i64 ts[j - 1].p) := (hL12.cell (by simp; omega)).trans (hc' 0 _ rfl); clear hc'; rw [hp] at HF; generalize ts[j - 1].p = z at *; have hw1 : IntKind.i64.wrap ((j : Int) - 1) = ((j - 1 : Nat) : Int) := by rw [IntWalk.i64_in _ (by omega)]; omega
     have hj1i : ((j - 1 : Nat) : Int) < (ts.length : Int) := by omega
     go_wp2_with fail; refine wp_region_tail 19 (by kernel_rfl) (by kernel_rfl) ?_; simp only [List.take_succ_cons, List.take_zero, List.drop_succ_cons, List.drop_zero]
     repeat (go_big_quiet_step (fail))
     refine wpQuiet_nil ?_; go_wp2_with fail; refine (rneed_any _ _ g _ hW12.drew).mono ?_; rintro e w13 ⟨rfl, hW13, hC13⟩; have hB13 := hC13.blk hB12.drew (by omega) (by decide); go_wp2_with fail
     go_roundw
     case rel => exact ⟨j + 1, by go_num, by omega, HF.out _ _ (by grind) hW13, hB13, hT12.drew.trans hC13⟩
     case measure => simp [intOf]; omega
    ·have h3d : decide ((0 : Int) < (j : Int)) = false := decide_eq_false (by omega); go_wp2_with fail; refine wp_region_tail 19 (by kernel_rfl) (by kernel_rfl) ?_; simp only [List.take_succ_cons, List.take_zero, List.drop_succ_cons, List.drop_zero]
     repeat (go_big_quiet_step (fail))
     refine wpQuiet_nil ?_; go_wp2_with fail; refine (rneed_any _ _ g _ hW12.drew).mono ?_; rintro e w13 ⟨rfl, hW13, hC13⟩; have hB13 := hC13.blk hB12.drew (by omega) (by decide); go_wp2_with fail
     go_roundw
     case rel => exact ⟨j + 1, by go_num, by omega, HF.out _ _ (by grind) hW13, hB13, hT12.drew.trans hC13⟩
     case measure => simp [intOf]; omega
  ·have hji : ¬ (j : Int) < (ts.length : Int) := by omega
   have hjl : j = ts.length := by omega
   subst hjl; rw [List.take_of_length_le (Nat.le_refl _)] at hW; have hle := fold_len Out.turn turnW Out.turn_lenW ts S1; generalize ts.foldl Out.turn S1 = SF at *; generalize allTo (rturnOkAt ts) ts.length = ok at *; have hbn : (SF.need ok).b.length = SF.b.length := rfl; go_wp2_with fail; refine (rflag_any _ _ g _ hW (by omega)).mono ?_; rintro e w21 ⟨rfl, hW21, hC21⟩; have hB21 := hC21.blk hBx (by omega) (by decide); rw [Out.need_flag] at hW21; have l21 : (SF.flag x2).b.length ≤ SF.b.length + 1 := by simp [Out.flag]
   generalize SF.flag x2 = SF1 at *; have hbn1 : (SF1.need ok).b.length = SF1.b.length := rfl; have k21_0 : w21.cell? ⟨w.heap.size, 0, none⟩ = some (Value.slice tA ts.length tc) := hB21.c 0 rfl; have k21_1 : w21.cell? ⟨w.heap.size, 1, none⟩ = some (Value.bool x2) := hB21.c 1 rfl; have k21_2 : w21.cell? ⟨w.heap.size, 2, none⟩ = some (Value.string (bs x3)) := hB21.c 2 rfl; have k21_3 : w21.cell? ⟨w.heap.size, 3, none⟩ = some (Value.string (bs x4)) := hB21.c 3 rfl; go_wp2_with fail; refine (rtext_any _ _ _ g _ hW21 (by omega)).mono ?_; rintro e w22 ⟨rfl, hW22, hC22⟩; have hB22 := hC22.blk hB21 (by omega) (by decide); rw [Out.need_text] at hW22; have l22 := SF1.text_len x3 32; generalize SF1.text x3 32 = SF2 at *; have hbn2 : (SF2.need ok).b.length = SF2.b.length := rfl; have k22_0 : w22.cell? ⟨w.heap.size, 0, none⟩ = some (Value.slice tA ts.length tc) := hB22.c 0 rfl; have k22_1 : w22.cell? ⟨w.heap.size, 1, none⟩ = some (Value.bool x2) := hB22.c 1 rfl; have k22_2 : w22.cell? ⟨w.heap.size, 2, none⟩ = some (Value.string (bs x3)) := hB22.c 2 rfl; have k22_3 : w22.cell? ⟨w.heap.size, 3, none⟩ = some (Value.string (bs x4)) := hB22.c 3 rfl; go_wp2_with fail; refine (rtext_any _ _ _ g _ hW22 (by omega)).mono ?_; rintro e w23 ⟨rfl, hW23, hC23⟩; have hB23 := hC23.blk hB22 (by omega) (by decide); rw [Out.need_text] at hW23; generalize SF2.text x4 4096 = SF3 at *; have hT23 := ((hT.trans hC21).trans hC22).trans hC23; have k23_0 : w23.cell? ⟨w.heap.size, 0, none⟩ = some (Value.slice tA ts.length tc) := hB23.c 0 rfl; have k23_1 : w23.cell? ⟨w.heap.size, 1, none⟩ = some (Value.bool x2) := hB23.c 1 rfl; have k23_2 : w23.cell? ⟨w.heap.size, 2, none⟩ = some (Value.string (bs x3)) := hB23.c 2 rfl; have k23_3 : w23.cell? ⟨w.heap.size, 3, none⟩ = some (Value.string (bs x4)) := hB23.c 3 rfl; go_wp2_with fail
   all_goals
    refine (rneed_any _ _ g _ hW23).mono ?_; rintro e w24 ⟨rfl, hW24, hC24⟩; have hB24 := hC24.blk hB23 (by omega) (by decide); have k24_0 : w24.cell? ⟨w.heap.size, 0, none⟩ = some (Value.slice tA ts.length tc) := hB24.c 0 rfl; have k24_1 : w24.cell? ⟨w.heap.size, 1, none⟩ = some (Value.bool x2) := hB24.c 1 rfl; have k24_2 : w24.cell? ⟨w.heap.size, 2, none⟩ = some (Value.string (bs x3)) := hB24.c 2 rfl; have k24_3 : w24.cell? ⟨w.heap.size, 3, none⟩ = some (Value.string (bs x4)) := hB24.c 3 rfl; go_wp2_with fail
    all_goals
     refine (rneed_any _ _ g _ hW24).mono ?_; rintro e w25 ⟨rfl, hW25, hC25⟩; go_wp2_with fail
     go_end0
     exact ⟨rfl, HEQ.out _ (hW25.eq (by rw [hK.out, Out.need_need, Out.need_need, Out.need_need]; congr 1; first | grind [emp] | (cases x2 <;> cases x3 <;> cases x4 <;> simp_all [emp]))), (hT23.trans hC24).trans hC25⟩
set_option maxRecDepth 100000 in
set_option maxHeartbeats 1000000 in
theorem rsight_any (x : SightD) (B : Nat) (w : World) (g : Nat) (S : Out) (h : Ref w g S) (hl : S.b.length + 40 * sightM x ≤ 58999999990000) (hx : x.held w B) (hB : B ≤ g) :
  Calls Tryz.prog 188 #[.pointer (some ⟨g, 0, none⟩), x.val] w fun e w' => e = .returned (.tuple #[]) ∧ Ref w' g (S.sight x) ∧ Turned w w' g := by
 have hgt := h.lt; have hE : Hid (S.sight x = ((S.header x.header).cert x.cert).bench x.seats) := rfl; obtain ⟨⟨h1, h2, h3, h4, h5, h6, h7, h8, h9⟩, ⟨c1, c2, c3, c4, c5, c6, c6a, c6c⟩, ss, sA, sc⟩ := x; simp only [sightM, headerM] at hl; dsimp only [SightD.val]; obtain ⟨hxh, hxc, hxr, hxs⟩ := hx; dsimp only at hxh hxc hxr hxs; go_enter Tryz.func188, Tryz.ntmps188; go_wp2_with fail; refine (rheader_any ⟨h1, h2, h3, h4, h5, h6, h7, h8, h9⟩ hxh _ g _ (h.alloc _) (by omega)).mono ?_; rintro e w1 ⟨rfl, hW1, hC1⟩; have hB1 := hC1.blk (Blk.new _ _ _) (by omega) (by decide); have hT1 := ((Turned.refl w g).alloc (by omega) _).trans hC1; have hlt1 := hB1.lt; have hgl1 := hW1.lt; have ll1 := S.header_len ⟨h1, h2, h3, h4, h5, h6, h7, h8, h9⟩; generalize S.header ⟨h1, h2, h3, h4, h5, h6, h7, h8, h9⟩ = S1 at *; have c1_0 := hB1.c 0 rfl; have c1_1 := hB1.c 1 rfl; have c1_2 := hB1.c 2 rfl; have c1_3 := hB1.c 3 rfl; have c1_4 := hB1.c 4 rfl; have c1_5 := hB1.c 5 rfl; have c1_6 := hB1.c 6 rfl; have c1_7 := hB1.c 7 rfl; have c1_8 := hB1.c 8 rfl; have c1_9 := hB1.c 9 rfl; have c1_10 := hB1.c 10 rfl; have c1_11 := hB1.c 11 rfl; have c1_12 := hB1.c 12 rfl; have c1_13 := hB1.c 13 rfl; have c1_14 := hB1.c 14 rfl; have c1_15 := hB1.c 15 rfl; go_wp2_with fail; refine (rcert_any ⟨c1, c2, c3, c4, c5, c6, c6a, c6c⟩ B _ g _ hW1 (by omega) (hxc.below (hT1.low.mono hB)) hB).mono ?_; rintro e w2 ⟨rfl, hW2, hC2⟩; have hB2 := hC2.blk hB1 (by omega) (by decide); have hT2 := hT1.trans hC2; have hlt2 := hB2.lt; have hgl2 := hW2.lt; have ll2 := S1.cert_len ⟨c1, c2, c3, c4, c5, c6, c6a, c6c⟩; generalize S1.cert ⟨c1, c2, c3, c4, c5, c6, c6a, c6c⟩ = S2 at *; have c2_0 := hB2.c 0 rfl; have c2_1 := hB2.c 1 rfl; have c2_2 := hB2.c 2 rfl; have c2_3 := hB2.c 3 rfl; have c2_4 := hB2.c 4 rfl; have c2_5 := hB2.c 5 rfl; have c2_6 := hB2.c 6 rfl; have c2_7 := hB2.c 7 rfl; have c2_8 := hB2.c 8 rfl; have c2_9 := hB2.c 9 rfl; have c2_10 := hB2.c 10 rfl
 have c2_11 := hB2.c 11 rfl; have c2_12 := hB2.c 12 rfl; have c2_13 := hB2.c 13 rfl; have c2_14 := hB2.c 14 rfl; have c2_15 := hB2.c 15 rfl; go_wp2_with fail; refine (rbench_any ss sA sc B _ g _ hW2 (hT2.rd hxr hB) hB (by omega) hxs).mono ?_; rintro e w3 ⟨rfl, hW3, hC3⟩; have hB3 := hC3.blk hB2 (by omega) (by decide); have hT3 := hT2.trans hC3; have hlt3 := hB3.lt; have hgl3 := hW3.lt; generalize S2.bench ss = S3 at *; go_wp2_with fail
 go_end0
 exact ⟨rfl, Ref.eq hW3 (by rw [hE.out] <;> rfl), hT3⟩
end Go.Proofs.YtjhaafbbdgjagaaGreat
