/- Of the texts Wr13, Wr14, Wr15, Wr15t, Wr12. -/
import Derived.Test.YtjhaafbbdgjagaaGreatProg
import Derived.Test.YtjhaafbbdgjagaaGreatG23
import Derived.Deep.DeepCutAuto
set_option linter.unusedSimpArgs false
set_option linter.unusedVariables false
namespace Go.Proofs.YtjhaafbbdgjagaaGreat
open Go.RowKit
set_option maxRecDepth 100000 in
set_option maxHeartbeats 1000000 in
theorem putsInt_any (l : List Int) (A : Option Addr) (c B : Nat) (m : Int) (w : World) (g : Nat) (S : Out) (h : Wrt w g S) (hr : Ints w B A l) (hB : B ≤ g) (hl : S.b.length + 6 + sumL numW l ≤ 60000000000000) (hm : l.length ≤ maxLen) :
  Calls Tryz.prog 162 #[.pointer (some ⟨g, 0, none⟩), .slice A l.length c, .int .i64 m, .func (.func 56) #[] #[]] w fun e w' => e = .returned (.tuple #[]) ∧ Wrt w' g (S.list l m Out.num) ∧ Turned w w' g := by
 unfold maxLen at hm; have hgt := h.lt; have hn := ((S.lim l.length m).num_len l.length)
 have hb0 : (S.lim l.length m).b.length = S.b.length := rfl; have hE : Hid (S.list l m Out.num = l.foldl Out.num ((S.lim l.length m).num l.length)) := rfl; go_enter Tryz.func162, Tryz.ntmps162; go_wp2_with fail; refine (limited_any _ _ _ g _ h).mono ?_; rintro e w1 ⟨rfl, hW1, hT1⟩; go_wp2_with fail; refine (number_any _ _ g _ hW1 (by omega)).mono ?_; rintro e w2 ⟨rfl, hW2, hT2⟩; have hT02 := hT1.trans hT2; clear hT1 hT2 hW1; generalize (S.lim l.length m).num l.length = S2 at *; go_wp2_with fail
 go_loopw [9, 21] (fun _ i wr => ∃ j : Nat, i = .int .i64 (j : Int) ∧ j ≤ l.length ∧ Wrt wr g ((l.take j).foldl Out.num S2) ∧ Turned w wr g) (fun _ i _ => l.length - (intOf i).toNat)
 case atStart => exact ⟨0, rfl, by omega, by simpa using hW2, hT02⟩
 case round =>
  obtain ⟨j, rfl, hj, hW, hT⟩ := hrel; have hgw := hW.lt
  by_cases hlt : j < l.length
  ·have hji : (j : Int) < (l.length : Int) := by omega
   obtain ⟨b, off, rfl, hbB, hc⟩ := Ints.at_ (hT.rd hr hB) hlt; have HS := Lib.hid (fold_take Out.num S2 l j hlt); have hle := fold_len Out.num numW Out.num_lenW (l.take j) S2; have hle2 := sumL_take numW l j hlt; generalize hxx : l[j] = x at *; clear hxx; have c0 : wr.cell? ⟨b, off + j, none⟩ = some (.int .i64 x) := hc; clear hc; go_wp2_with fail; refine (number_any x _ g _ hW (by unfold numW at *; omega)).mono ?_; rintro e w3 ⟨rfl, hW3, hT3⟩; go_wp2_with fail
   go_roundw
   case rel => exact ⟨j + 1, by go_num, by omega, by rw [HS.out]; exact hW3, hT.trans hT3⟩
   case measure => simp [intOf]; omega
  ·have hji : ¬ (j : Int) < (l.length : Int) := by omega
   go_wp2
   go_end0
   rw [List.take_of_length_le (by omega)] at hW; exact ⟨rfl, by rw [hE.out]; exact hW, hT⟩
set_option maxRecDepth 100000 in
set_option maxHeartbeats 1000000 in
theorem putsTurn_any (l : List TurnD) (A : Option Addr) (c B : Nat) (m : Int) (w : World) (g : Nat) (S : Out) (h : Wrt w g S) (hr : TurnsL w B A l) (hB : B ≤ g) (hd : ∀ x ∈ l, x.ok) (hl : S.b.length + 6 + sumL turnW l ≤ 60000000000000) (hm : l.length ≤ maxLen) :
  Calls Tryz.prog 174 #[.pointer (some ⟨g, 0, none⟩), .slice A l.length c, .int .i64 m, .func (.func 175) #[] #[]] w fun e w' => e = .returned (.tuple #[]) ∧ Wrt w' g (S.list l m Out.turn) ∧ Turned w w' g := by
 unfold maxLen at hm; have hgt := h.lt; have hn := ((S.lim l.length m).num_len l.length)
 have hb0 : (S.lim l.length m).b.length = S.b.length := rfl; have hE : Hid (S.list l m Out.turn = l.foldl Out.turn ((S.lim l.length m).num l.length)) := rfl; go_enter Tryz.func174, Tryz.ntmps174; go_wp2_with fail; refine (limited_any _ _ _ g _ h).mono ?_; rintro e w1 ⟨rfl, hW1, hT1⟩; go_wp2_with fail; refine (number_any _ _ g _ hW1 (by omega)).mono ?_; rintro e w2 ⟨rfl, hW2, hT2⟩; have hT02 := hT1.trans hT2; clear hT1 hT2 hW1; generalize (S.lim l.length m).num l.length = S2 at *; go_wp2_with fail
 go_loopw [9, 21] (fun _ i wr => ∃ j : Nat, i = .int .i64 (j : Int) ∧ j ≤ l.length ∧ Wrt wr g ((l.take j).foldl Out.turn S2) ∧ Turned w wr g) (fun _ i _ => l.length - (intOf i).toNat)
 case atStart => exact ⟨0, rfl, by omega, by simpa using hW2, hT02⟩
 case round =>
  obtain ⟨j, rfl, hj, hW, hT⟩ := hrel; have hgw := hW.lt
  by_cases hlt : j < l.length
  ·have hji : (j : Int) < (l.length : Int) := by omega
   obtain ⟨b, off, rfl, hbB, hc⟩ := TurnsL.at_ (hT.rd hr hB) hlt; have HS := Lib.hid (fold_take Out.turn S2 l j hlt); have hle := fold_len Out.turn turnW Out.turn_lenW (l.take j) S2; have hle2 := sumL_take turnW l j hlt; have hx := (hd l[j] (List.getElem_mem hlt))
   generalize hxx : l[j] = x at *; clear hxx; have c0 : wr.cell? ⟨b, off + j * 2, none⟩ = some (.int .i64 x.p) := hc 0 _ rfl; have c1 : wr.cell? ⟨b, off + j * 2 + 1, none⟩ = some (.int .u64 x.d) := hc 1 _ rfl; clear hc; go_wp2_with fail; refine (wturn_any x hx _ g _ (hW.alloc _) (by unfold turnW at *; omega)).mono ?_; rintro e w3 ⟨rfl, hW3, hT3⟩; go_wp2_with fail
   go_roundw
   case rel => exact ⟨j + 1, by go_num, by omega, by rw [HS.out]; exact hW3, (hT.alloc (Nat.le_of_lt hgw) _).trans hT3⟩
   case measure => simp [intOf]; omega
  ·have hji : ¬ (j : Int) < (l.length : Int) := by omega
   go_wp2
   go_end0
   rw [List.take_of_length_le (by omega)] at hW; exact ⟨rfl, by rw [hE.out]; exact hW, hT⟩
set_option maxRecDepth 100000 in
set_option maxHeartbeats 1000000 in
theorem wcert_any (x : CertD) (B : Nat) (w : World) (g : Nat) (S : Out) (h : Wrt w g S) (hl : S.b.length + 40 * certM x ≤ 59000000000000) (hx : x.held w B) (hB : B ≤ g) :
  Calls Tryz.prog 79 #[.pointer (some ⟨g, 0, none⟩), x.val] w fun e w' => e = .returned (.tuple #[]) ∧ Wrt w' g (S.cert x) ∧ Turned w w' g := by
 have hgt := h.lt; have hE : Hid (S.cert x = ((((((S.nums [x.h, x.r, x.s]).flag x.has).dig x.b).list x.froms 7 Out.num).need (decide (x.s = 1) || decide (x.s = 2))).need (x.has || decide (x.b = 0))).need (allTo (fromOk x.froms) x.froms.length)) := by show _ = _; rw [Out.need_need (_ : Out) (decide (x.s = 1) || decide (x.s = 2))]; rfl
 simp only [certM] at hl; obtain ⟨x1, x2, x3, x4, x5, x6, x6a, x6c⟩ := x; dsimp only at hl hx; dsimp only [CertD.val]; obtain ⟨⟨hx0, hx1⟩, hxr, hxs⟩ := hx; dsimp only at hx0 hx1 hxr hxs; go_enter Tryz.func79, Tryz.ntmps79; go_wp2_with fail; generalize Value.agg #[.int .i64 x1, .int .i64 x2, .int .i64 x3, .bool x4, .int .u64 x5, .slice x6a x6.length x6c] = V; have ll1 := S.nums_len [x1, x2, x3]; simp only [List.length_cons, List.length_nil] at ll1; refine (numbers_any [x1, x2, x3] 3 _ g (w.heap.size + 1) S ((h.alloc _).alloc _) (by have hN := Blk.new (w.alloc (.cells #[.int .i64 x1, .int .i64 x2, .int .i64 x3, .bool x4, .int .u64 x5, .slice x6a x6.length x6c] 62)) 3 #[.int .i64 x1, .int .i64 x2, .int .i64 x3]; simpa using hN) (by omega) (by simp; omega)).mono ?_; rintro e w1 ⟨rfl, hW1, hC1⟩; have hB1 := hC1.blk ((Blk.new _ _ _).alloc _) (by omega) (by decide); have hT1 := (((Turned.refl w g).alloc (by omega) _).alloc (by simp; omega) _).trans hC1; have hlt1 := hB1.lt; have hgl1 := hW1.lt; generalize S.nums [x1, x2, x3] = S1 at *; have c1_0 := hB1.c 0 rfl; have c1_1 := hB1.c 1 rfl; have c1_2 := hB1.c 2 rfl; have c1_3 := hB1.c 3 rfl; have c1_4 := hB1.c 4 rfl; have c1_5 := hB1.c 5 rfl; go_wp2_with fail; refine (flag_any _ _ g _ hW1 (by omega)).mono ?_; rintro e w2 ⟨rfl, hW2, hC2⟩; have hB2 := hC2.blk hB1 (by omega) (by decide); have hT2 := hT1.trans hC2; have hlt2 := hB2.lt; have hgl2 := hW2.lt; have ll2 := (by simp [Out.flag] : (S1.flag x4).b.length ≤ S1.b.length + 1)
 generalize S1.flag x4 = S2 at *; have c2_0 := hB2.c 0 rfl; have c2_1 := hB2.c 1 rfl; have c2_2 := hB2.c 2 rfl; have c2_3 := hB2.c 3 rfl; have c2_4 := hB2.c 4 rfl; have c2_5 := hB2.c 5 rfl; go_wp2_with fail; refine (digest_any _ _ g _ hW2 (by omega) (by omega) (by omega)).mono ?_; rintro e w3 ⟨rfl, hW3, hC3⟩; have hB3 := hC3.blk hB2 (by omega) (by decide); have hT3 := hT2.trans hC3; have hlt3 := hB3.lt; have hgl3 := hW3.lt; have ll3 := (by simp [Out.dig, be_len] : (S2.dig x5).b.length ≤ S2.b.length + 8)
 generalize S2.dig x5 = S3 at *; have c3_0 := hB3.c 0 rfl; have c3_1 := hB3.c 1 rfl; have c3_2 := hB3.c 2 rfl; have c3_3 := hB3.c 3 rfl; have c3_4 := hB3.c 4 rfl; have c3_5 := hB3.c 5 rfl; have hsw : sumL numW x6 = 6 * x6.length := sumL_const 6 x6; go_wp2_with fail; refine (putsInt_any x6 x6a x6c B 7 _ g _ hW3 (hT3.rd hxr hB) hB (by omega) hxs).mono ?_; rintro e w4 ⟨rfl, hW4, hC4⟩; have hB4 := hC4.blk hB3 (by omega) (by decide); have hT4 := hT3.trans hC4; have hlt4 := hB4.lt; have hgl4 := hW4.lt; have ll4 := list_len Out.num numW Out.num_lenW x6 7 S3; generalize S3.list x6 7 Out.num = S4 at *; have c4_0 := hB4.c 0 rfl; have c4_1 := hB4.c 1 rfl; have c4_2 := hB4.c 2 rfl; have c4_3 := hB4.c 3 rfl; have c4_4 := hB4.c 4 rfl; have c4_5 := hB4.c 5 rfl
 go_upto_region 5 with fail
 go_cut [37] (fun x wc => x = .tuple #[] ∧ Wrt wc g (S4.need (decide (x3 = 1) || decide (x3 = 2))) ∧ Blk wc w.heap.size 62 #[.int .i64 x1, .int .i64 x2, .int .i64 x3, .bool x4, .int .u64 x5, .slice x6a x6.length x6c] ∧ Turned w wc g)
 case first =>
  go_wp2_with fail
  all_goals
   refine (need_any _ _ g _ hW4).mono ?_; rintro e w5 ⟨rfl, hW5, hC5⟩; go_wp2_with fail
   go_meet
   exact ⟨rfl, hW5.eq (by congr 1; first | rfl | grind), hC5.blk hB4 (by omega) (by decide), hT4.trans hC5⟩
 case rest =>
  obtain ⟨w5, rfl⟩ : ∃ x : World, x = wc := ⟨_, rfl⟩
  obtain ⟨rfl, hW5, hB5, hT5⟩ := hcut; have hlt5 := hB5.lt; have hgl5 := hW5.lt; have ll5 : (S4.need (decide (x3 = 1) || decide (x3 = 2))).b.length = S4.b.length := rfl; generalize S4.need (decide (x3 = 1) || decide (x3 = 2)) = S5 at *; have c5_0 := hB5.c 0 rfl; have c5_1 := hB5.c 1 rfl; have c5_2 := hB5.c 2 rfl; have c5_3 := hB5.c 3 rfl; have c5_4 := hB5.c 4 rfl; have c5_5 := hB5.c 5 rfl
  go_upto_region 6 with fail
  go_cut [46] (fun x wc => x = .tuple #[] ∧ Wrt wc g (S5.need (x4 || decide (x5 = 0))) ∧ Blk wc w.heap.size 62 #[.int .i64 x1, .int .i64 x2, .int .i64 x3, .bool x4, .int .u64 x5, .slice x6a x6.length x6c] ∧ Turned w wc g)
  case first =>
   go_wp2_with fail
   all_goals
    refine (need_any _ _ g _ hW5).mono ?_; rintro e w6 ⟨rfl, hW6, hC6⟩; go_wp2_with fail
    go_meet
    exact ⟨rfl, hW6.eq (by congr 1; first | rfl | grind), hC6.blk hB5 (by omega) (by decide), hT5.trans hC6⟩
  case rest =>
   obtain ⟨w6, rfl⟩ : ∃ x : World, x = wc := ⟨_, rfl⟩
   obtain ⟨rfl, hW6, hB6, hT6⟩ := hcut; have hlt6 := hB6.lt; have hgl6 := hW6.lt; have ll6 : (S5.need (x4 || decide (x5 = 0))).b.length = S5.b.length := rfl; generalize S5.need (x4 || decide (x5 = 0)) = S6 at *; have c6_0 := hB6.c 0 rfl; have c6_1 := hB6.c 1 rfl; have c6_2 := hB6.c 2 rfl; have c6_3 := hB6.c 3 rfl; have c6_4 := hB6.c 4 rfl; have c6_5 := hB6.c 5 rfl; have hKf : Hid (∀ j (h : j < x6.length), fromOk x6 j = decide (prevI x6 j < x6[j])) := by
    intro j h; simp [fromOk, List.getElem?_eq_getElem h]
   have hKp : Hid (∀ j (h : j < x6.length), prevI x6 (j + 1) = x6[j]) := by
    intro j h; simp [prevI, List.getElem?_eq_getElem h]
   go_wp2_with fail
   go_loopw [4, 6, 50] (fun p _ i wr => ∃ j : Nat, i = .int .i64 (j : Int) ∧ j ≤ x6.length ∧ p = .int .i64 (prevI x6 j) ∧ Wrt wr g (S6.need (allTo (fromOk x6) j)) ∧ Turned w wr g) (fun _ _ i _ => x6.length - (intOf i).toNat)
   case atStart => exact ⟨0, rfl, by omega, rfl, by rw [show allTo (fromOk x6) 0 = true from rfl, Out.need_true]; exact hW6, hT6⟩
   case round =>
    obtain ⟨j, rfl, hj, rfl, hW, hT⟩ := hrel
    by_cases hlt : j < x6.length
    ·have hji : (j : Int) < (x6.length : Int) := by omega
     obtain ⟨b, off, rfl, hbB, d0⟩ := Ints.at_ (hT.rd hxr hB) hlt; have hs := Lib.hid (hKf.out j hlt); have hs2 : Hid (allTo (fromOk x6) (j + 1) = (allTo (fromOk x6) j && fromOk x6 j)) := rfl; have hs3 := Lib.hid (hKp.out j hlt); generalize x6[j] = y at *; generalize prevI x6 j = pv at *; go_wp2_with fail; refine (need_any _ _ g _ hW).mono ?_; rintro e w9 ⟨rfl, hW9, hT9⟩; go_wp2_with fail
     go_roundw
     case rel => exact ⟨j + 1, by go_num, by omega, by rw [hs3.out], hW9.eq (by rw [Out.need_need, hs2.out, hs.out]), hT.trans hT9⟩
     case measure => simp [intOf]; omega
    ·have hji : ¬ (j : Int) < (x6.length : Int) := by omega
     have hjl : Hid (j = x6.length) := show j = x6.length by omega
     go_wp2
     go_end0
     exact ⟨rfl, hW.eq (by rw [hE.out, ← hjl.out]), hT⟩
set_option maxRecDepth 100000 in
set_option maxHeartbeats 1000000 in
theorem wheader_any (x : HeaderD) (hx : x.ok) (w : World) (g : Nat) (S : Out) (h : Wrt w g S) (hl : S.b.length + 2000 ≤ 70368744177000) :
  Calls Tryz.prog 91 #[.pointer (some ⟨g, 0, none⟩), x.val] w fun e w' => e = .returned (.tuple #[]) ∧ Wrt w' g (S.header x) ∧ Turned w w' g := by
 have hgt := h.lt; have hE : Hid (S.header x = ((S.nums [x.c, x.h]).digs [x.p, x.t, x.g, x.s, x.r, x.b]).num x.o) := rfl; obtain ⟨x1, x2, x3, x4, x5, x6, x7, x8, x9⟩ := x; obtain ⟨⟨p0, p1⟩, ⟨t0, t1⟩, ⟨g0, g1⟩, ⟨s0, s1⟩, ⟨r0, r1⟩, ⟨b0, b1⟩⟩ := hx; dsimp only at p0 p1 t0 t1 g0 g1 s0 s1 r0 r1 b0 b1; dsimp only [HeaderD.val]; go_enter Tryz.func91, Tryz.ntmps91; go_wp2_with fail; have ll1 := S.nums_len [x1, x2]; simp only [List.length_cons, List.length_nil] at ll1; refine (numbers_any [x1, x2] 2 _ g (w.heap.size + 1) S ((h.alloc _).alloc _) (by have hN := Blk.new (w.alloc (.cells #[.int .i64 x1, .int .i64 x2, .int .u64 x3, .int .u64 x4, .int .u64 x5, .int .u64 x6, .int .u64 x7, .int .u64 x8, .int .i64 x9] 52)) 3 #[.int .i64 x1, .int .i64 x2]; simpa using hN) (by omega) (by simp; omega)).mono ?_; rintro e w1 ⟨rfl, hW1, hC1⟩; have hB1 := hC1.blk ((Blk.new _ _ _).alloc _) (by omega) (by decide); have hT1 := (((Turned.refl w g).alloc (by omega) _).alloc (by simp; omega) _).trans hC1; have hlt1 := hB1.lt; have hgl1 := hW1.lt; generalize S.nums [x1, x2] = S1 at *; have c1_0 := hB1.c 0 rfl; have c1_1 := hB1.c 1 rfl; have c1_2 := hB1.c 2 rfl; have c1_3 := hB1.c 3 rfl; have c1_4 := hB1.c 4 rfl; have c1_5 := hB1.c 5 rfl; have c1_6 := hB1.c 6 rfl; have c1_7 := hB1.c 7 rfl; have c1_8 := hB1.c 8 rfl; have c1_2 := hB1.c 2 rfl; have c1_3 := hB1.c 3 rfl; have c1_4 := hB1.c 4 rfl; have c1_5 := hB1.c 5 rfl; have c1_6 := hB1.c 6 rfl; have c1_7 := hB1.c 7 rfl; have hlq : ([x3, x4, x5, x6, x7, x8] : List Int).length = 6 := rfl; have hdk : ∀ d ∈ [x3, x4, x5, x6, x7, x8], 0 ≤ d ∧ d < 18446744073709551616 := by
  intro d hd; simp at hd
  rcases hd with rfl | rfl | rfl | rfl | rfl | rfl <;> omega
 have HDK := Lib.hid hdk; clear hdk; have hN : Blk (w1.alloc (.cells #[.int .u64 x3, .int .u64 x4, .int .u64 x5, .int .u64 x6, .int .u64 x7, .int .u64 x8] 40)) w1.heap.size 40 (([x3, x4, x5, x6, x7, x8] : List Int).map (Value.int .u64)).toArray := Blk.new _ _ _; have hWn := hW1.alloc (.cells #[.int .u64 x3, .int .u64 x4, .int .u64 x5, .int .u64 x6, .int .u64 x7, .int .u64 x8] 40); have hBn := hB1.alloc (.cells #[.int .u64 x3, .int .u64 x4, .int .u64 x5, .int .u64 x6, .int .u64 x7, .int .u64 x8] 40); have hTn := hT1.alloc (by omega) (.cells #[.int .u64 x3, .int .u64 x4, .int .u64 x5, .int .u64 x6, .int .u64 x7, .int .u64 x8] 40); go_wp2_with fail; generalize hdl : ([x3, x4, x5, x6, x7, x8] : List Int) = dl at *; have HDL := Lib.hid hdl; clear hdl
 go_loopw [5, 27] (fun _ i wr => ∃ j : Nat, i = .int .i64 (j : Int) ∧ j ≤ 6 ∧ Wrt wr g ((dl.take j).foldl Out.dig S1) ∧ Blk wr w1.heap.size 40 (dl.map (Value.int .u64)).toArray ∧ Blk wr w.heap.size 52 #[.int .i64 x1, .int .i64 x2, .int .u64 x3, .int .u64 x4, .int .u64 x5, .int .u64 x6, .int .u64 x7, .int .u64 x8, .int .i64 x9] ∧ Turned w wr g) (fun _ i _ => 6 - (intOf i).toNat)
 case atStart => exact ⟨0, rfl, by omega, by simpa using hWn, hN, hBn, hTn⟩
 case round =>
  obtain ⟨j, rfl, hj, hW, hDg, hBx, hT⟩ := hrel
  by_cases hlt : j < 6
  ·have hji : (j : Int) < 6 := by omega
   have hl2 : j < dl.length := by omega
   have d0 : wr.cell? ⟨w1.heap.size, j, none⟩ = some (.int .u64 dl[j]) := (hDg.cell j).trans (by simp [List.getElem?_eq_getElem hl2]); have HS := Lib.hid (fold_take Out.dig S1 dl j hl2); have hle := Out.digs_len S1 (dl.take j); have hle2 : (dl.take j).length ≤ j := by simp; omega
   have hdj := HDK.out dl[j] (List.getElem_mem hl2); generalize dl[j] = y at *; unfold Out.digs at hle; generalize (dl.take j).foldl Out.dig S1 = S7 at *; go_wp2_with fail; refine (digest_any _ _ g _ hW (by omega) (by omega) (by omega)).mono ?_; rintro e w9 ⟨rfl, hW9, hC9⟩; have hD9 := hC9.blk hDg (by omega) (by decide); have hB9 := hC9.blk hBx (by omega) (by decide); go_wp2_with fail
   go_roundw
   case rel => exact ⟨j + 1, by go_num, by omega, by rw [HS.out]; exact hW9, hD9, hB9, hT.trans hC9⟩
   case measure => simp [intOf]; omega
  ·have hji : ¬ (j : Int) < 6 := by omega
   rw [List.take_of_length_le (by omega)] at hW; have hle := Out.digs_len S1 dl; have hEd : Hid (S1.digs dl = dl.foldl Out.dig S1) := rfl; rw [hEd.out] at hle; have k8 := hBx.c 8 rfl; go_wp2_with fail; refine (number_any _ _ g _ hW (by omega)).mono ?_; rintro e w9 ⟨rfl, hW9, hC9⟩; go_wp2_with fail
   go_end0
   exact ⟨rfl, hW9.eq (by rw [hE.out, hEd.out]), hT.trans hC9⟩
set_option maxRecDepth 100000 in
set_option maxHeartbeats 1000000 in
theorem wproof_any (x : ProofD) (B : Nat) (w : World) (g : Nat) (S : Out) (h : Wrt w g S) (hl : S.b.length + 40 * proofM x ≤ 59000000000000) (hx : x.held w B) (hB : B ≤ g) :
  Calls Tryz.prog 97 #[.pointer (some ⟨g, 0, none⟩), x.val] w fun e w' => e = .returned (.tuple #[]) ∧ Wrt w' g (S.proof x) ∧ Turned w w' g := by
 have hgt := h.lt; have hE : Hid (S.proof x = (((((S.list x.turns 288 Out.turn).flag x.leaf).text x.key 32).text x.value 4096).need (allTo (turnOkAt x.turns) x.turns.length)).need (proofOk x)) := rfl; have hK : Hid (proofOk x = ((x.leaf && !emp x.value) || (!x.leaf && decide (x.turns.length = 0) && emp x.key && emp x.value))) := rfl; obtain ⟨ts, tA, tc, x2, x3, x4⟩ := x; simp only [proofM, turns_M] at hl; dsimp only [ProofD.val]; obtain ⟨hxr, hxs, hxd⟩ := hx; dsimp only at hxr hxs hxd; have hsw := turns_W ts; go_enter Tryz.func97, Tryz.ntmps97; go_wp2_with fail; refine (putsTurn_any ts tA tc B 288 _ g _ (h.alloc _) (((Turned.refl w g).alloc (by omega) _).rd hxr hB) hB hxd (by omega) hxs).mono ?_; rintro e w1 ⟨rfl, hW1, hC1⟩; have hB1 := hC1.blk (Blk.new _ _ _) (by omega) (by decide); have hT1 := ((Turned.refl w g).alloc (by omega) _).trans hC1; have hlt1 := hB1.lt; have hgl1 := hW1.lt; have ll1 := list_len Out.turn turnW Out.turn_lenW ts 288 S; generalize S.list ts 288 Out.turn = S1 at *; have c1_0 := hB1.c 0 rfl; have c1_1 := hB1.c 1 rfl; have c1_2 := hB1.c 2 rfl; have c1_3 := hB1.c 3 rfl; go_wp2_with fail; refine (flag_any _ _ g _ hW1 (by omega)).mono ?_; rintro e w2 ⟨rfl, hW2, hC2⟩; have hB2 := hC2.blk hB1 (by omega) (by decide); have hT2 := hT1.trans hC2; have hlt2 := hB2.lt; have hgl2 := hW2.lt; have ll2 := (by simp [Out.flag] : (S1.flag x2).b.length ≤ S1.b.length + 1)
 generalize S1.flag x2 = S2 at *; have c2_0 := hB2.c 0 rfl; have c2_1 := hB2.c 1 rfl; have c2_2 := hB2.c 2 rfl; have c2_3 := hB2.c 3 rfl; go_wp2_with fail; refine (text_anyW x3 32 _ g _ hW2 (by omega)).mono ?_; rintro e w3 ⟨rfl, hW3, hC3⟩; have hB3 := hC3.blk hB2 (by omega) (by decide); have hT3 := hT2.trans hC3; have hlt3 := hB3.lt; have hgl3 := hW3.lt; have ll3 := S2.text_len x3 32; generalize S2.text x3 32 = S3 at *; have c3_0 := hB3.c 0 rfl; have c3_1 := hB3.c 1 rfl; have c3_2 := hB3.c 2 rfl; have c3_3 := hB3.c 3 rfl; go_wp2_with fail; refine (text_anyW x4 4096 _ g _ hW3 (by omega)).mono ?_; rintro e w4 ⟨rfl, hW4, hC4⟩; have hB4 := hC4.blk hB3 (by omega) (by decide); have hT4 := hT3.trans hC4; have hlt4 := hB4.lt; have hgl4 := hW4.lt; have ll4 := S3.text_len x4 4096; generalize S3.text x4 4096 = S4 at *; have c4_0 := hB4.c 0 rfl; have c4_1 := hB4.c 1 rfl; have c4_2 := hB4.c 2 rfl; have c4_3 := hB4.c 3 rfl; have hKf : Hid (∀ j (h : j < ts.length), turnOkAt ts j = decide (prevT ts j < ts[j].p)) := by
  intro j h; simp [turnOkAt, List.getElem?_eq_getElem h]
 have hKp : Hid (∀ j (h : j < ts.length), prevT ts (j + 1) = ts[j].p) := by
  intro j h; simp [prevT, List.getElem?_eq_getElem h]
 go_wp2_with fail
 go_loopw [4, 6, 26] (fun p _ i wr => ∃ j : Nat, i = .int .i64 (j : Int) ∧ j ≤ ts.length ∧ p = .int .i64 (prevT ts j) ∧ Wrt wr g (S4.need (allTo (turnOkAt ts) j)) ∧ Blk wr w.heap.size 87 #[.slice tA ts.length tc, .bool x2, .string (bs x3), .string (bs x4)] ∧ Turned w wr g) (fun _ _ i _ => ts.length - (intOf i).toNat)
 case atStart => exact ⟨0, rfl, by omega, rfl, by rw [show allTo (turnOkAt ts) 0 = true from rfl, Out.need_true]; exact hW4, hB4, hT4⟩
 case round =>
  obtain ⟨j, rfl, hj, rfl, hW, hBx, hT⟩ := hrel; have hgw := hW.lt
  by_cases hlt : j < ts.length
  ·have hji : (j : Int) < (ts.length : Int) := by omega
   obtain ⟨b, off, rfl, hbB, hc⟩ := TurnsL.at_ (hT.rd hxr hB) hlt; have hs := Lib.hid (hKf.out j hlt); have hs2 : Hid (allTo (turnOkAt ts) (j + 1) = (allTo (turnOkAt ts) j && turnOkAt ts j)) := rfl; have hs3 := Lib.hid (hKp.out j hlt); have d0 : wr.cell? ⟨b, off + j * 2, none⟩ = some (.int .i64 ts[j].p) := hc 0 _ rfl; have d1 : wr.cell? ⟨b, off + j * 2 + 1, none⟩ = some (.int .u64 ts[j].d) := hc 1 _ rfl; generalize ts[j] = y at *; clear hc; generalize prevT ts j = pv at *; go_wp2_with fail; refine (need_any _ _ g _ (hW.alloc _)).mono ?_; rintro e w9 ⟨rfl, hW9, hT9⟩; have hB9 := hT9.blk (Blk.new _ _ _) (by omega) (by decide); have hBx9 := hT9.blk (hBx.alloc _) (by omega) (by decide); have d2 := hB9.c 0 rfl; go_wp2_with fail
   go_roundw
   case rel => exact ⟨j + 1, by go_num, by omega, by rw [hs3.out], hW9.eq (by rw [Out.need_need, hs2.out, hs.out]), hBx9, (hT.alloc (Nat.le_of_lt hgw) _).trans hT9⟩
   case measure => simp [intOf]; omega
  ·have hji : ¬ (j : Int) < (ts.length : Int) := by omega
   have hjl : Hid (j = ts.length) := show j = ts.length by omega
   have k0 := hBx.c 0 rfl; have k1 := hBx.c 1 rfl; have k2 := hBx.c 2 rfl; have k3 := hBx.c 3 rfl; go_wp2_with fail
   all_goals
    refine (need_any _ _ g _ hW).mono ?_; rintro e w9 ⟨rfl, hW9, hT9⟩; go_wp2_with fail
    go_end0
    exact ⟨rfl, hW9.eq (by rw [hE.out, hK.out, ← hjl.out]; congr 1; first | grind [emp] | (cases x2 <;> cases x3 <;> cases x4 <;> simp_all [emp])), hT.trans hT9⟩
set_option maxRecDepth 100000 in
set_option maxHeartbeats 1000000 in
theorem wsight_any (x : SightD) (B : Nat) (w : World) (g : Nat) (S : Out) (h : Wrt w g S) (hl : S.b.length + 40 * sightM x ≤ 58999999990000) (hx : x.held w B) (hB : B ≤ g) :
  Calls Tryz.prog 184 #[.pointer (some ⟨g, 0, none⟩), x.val] w fun e w' => e = .returned (.tuple #[]) ∧ Wrt w' g (S.sight x) ∧ Turned w w' g := by
 have hgt := h.lt; have hE : Hid (S.sight x = ((S.header x.header).cert x.cert).bench x.seats) := rfl; obtain ⟨⟨h1, h2, h3, h4, h5, h6, h7, h8, h9⟩, ⟨c1, c2, c3, c4, c5, c6, c6a, c6c⟩, ss, sA, sc⟩ := x; simp only [sightM, headerM] at hl; dsimp only [SightD.val]; obtain ⟨hxh, hxc, hxr, hxs⟩ := hx; dsimp only at hxh hxc hxr hxs; go_enter Tryz.func184, Tryz.ntmps184; go_wp2_with fail; refine (wheader_any ⟨h1, h2, h3, h4, h5, h6, h7, h8, h9⟩ hxh _ g _ (h.alloc _) (by omega)).mono ?_; rintro e w1 ⟨rfl, hW1, hC1⟩; have hB1 := hC1.blk (Blk.new _ _ _) (by omega) (by decide); have hT1 := ((Turned.refl w g).alloc (by omega) _).trans hC1; have hlt1 := hB1.lt; have hgl1 := hW1.lt; have ll1 := S.header_len ⟨h1, h2, h3, h4, h5, h6, h7, h8, h9⟩; generalize S.header ⟨h1, h2, h3, h4, h5, h6, h7, h8, h9⟩ = S1 at *; have c1_0 := hB1.c 0 rfl; have c1_1 := hB1.c 1 rfl; have c1_2 := hB1.c 2 rfl; have c1_3 := hB1.c 3 rfl; have c1_4 := hB1.c 4 rfl; have c1_5 := hB1.c 5 rfl; have c1_6 := hB1.c 6 rfl; have c1_7 := hB1.c 7 rfl; have c1_8 := hB1.c 8 rfl; have c1_9 := hB1.c 9 rfl; have c1_10 := hB1.c 10 rfl; have c1_11 := hB1.c 11 rfl; have c1_12 := hB1.c 12 rfl; have c1_13 := hB1.c 13 rfl; have c1_14 := hB1.c 14 rfl; have c1_15 := hB1.c 15 rfl; go_wp2_with fail; refine (wcert_any ⟨c1, c2, c3, c4, c5, c6, c6a, c6c⟩ B _ g _ hW1 (by omega) (hxc.below (hT1.low.mono hB)) hB).mono ?_; rintro e w2 ⟨rfl, hW2, hC2⟩; have hB2 := hC2.blk hB1 (by omega) (by decide); have hT2 := hT1.trans hC2; have hlt2 := hB2.lt; have hgl2 := hW2.lt; have ll2 := S1.cert_len ⟨c1, c2, c3, c4, c5, c6, c6a, c6c⟩; generalize S1.cert ⟨c1, c2, c3, c4, c5, c6, c6a, c6c⟩ = S2 at *; have c2_0 := hB2.c 0 rfl; have c2_1 := hB2.c 1 rfl; have c2_2 := hB2.c 2 rfl; have c2_3 := hB2.c 3 rfl; have c2_4 := hB2.c 4 rfl; have c2_5 := hB2.c 5 rfl; have c2_6 := hB2.c 6 rfl; have c2_7 := hB2.c 7 rfl; have c2_8 := hB2.c 8 rfl; have c2_9 := hB2.c 9 rfl; have c2_10 := hB2.c 10 rfl
 have c2_11 := hB2.c 11 rfl; have c2_12 := hB2.c 12 rfl; have c2_13 := hB2.c 13 rfl; have c2_14 := hB2.c 14 rfl; have c2_15 := hB2.c 15 rfl; go_wp2_with fail; refine (wbench_any ss sA sc B _ g _ hW2 (hT2.rd hxr hB) hB (by omega) hxs).mono ?_; rintro e w3 ⟨rfl, hW3, hC3⟩; have hB3 := hC3.blk hB2 (by omega) (by decide); have hT3 := hT2.trans hC3; have hlt3 := hB3.lt; have hgl3 := hW3.lt; generalize S2.bench ss = S3 at *; go_wp2_with fail
 go_end0
 exact ⟨rfl, Wrt.eq hW3 (by rw [hE.out] <;> rfl), hT3⟩
set_option maxRecDepth 100000 in
set_option maxHeartbeats 1000000 in
theorem fields_any (k : Int) (w : World) :
  Calls Tryz.prog 186 #[.int .i64 k] w fun e w' => e = .returned (.tuple #[.bool (toF k), .bool (amountF k), .bool (textF k), .bool (argsF k), .bool (sightF k), .bool (proofF k)]) ∧ w = w' := by
 have h0 : Hid (toF k = (decide (k = 1) || decide (k = 3) || decide (k = 7) || decide (k = 8))) := rfl; have h1 : Hid (amountF k = (toF k || decide (k = 2) || decide (k = 4) || decide (k = 5))) := rfl; have h2 : Hid (textF k = (decide (k = 2) || decide (k = 3))) := rfl; have h3 : Hid (argsF k = decide (k = 3)) := rfl; have h4 : Hid (sightF k = decide (k = 9)) := rfl; have h5 : Hid (proofF k = decide (k = 10)) := rfl
 by_cases h : k = 3
 ·subst h; go_enter Tryz.func186, Tryz.ntmps186; go_wp2_with fail; exact bodyPost_ret (v := .tuple #[.bool true, .bool true, .bool true, .bool true, .bool false, .bool false]) (by simp [results, Tryz.results186, go_sem]) rfl ⟨by simp [toF, amountF, textF, argsF, sightF, proofF], rfl⟩
 have b3 : (k == 3) = false := beq_eq_false_iff_ne.2 h; have n3 := h; clear h
 by_cases h : k = 1
 ·subst h; go_enter Tryz.func186, Tryz.ntmps186; go_wp2_with fail; exact bodyPost_ret (v := .tuple #[.bool true, .bool true, .bool false, .bool false, .bool false, .bool false]) (by simp [results, Tryz.results186, go_sem]) rfl ⟨by simp [toF, amountF, textF, argsF, sightF, proofF], rfl⟩
 have b1 : (k == 1) = false := beq_eq_false_iff_ne.2 h; have n1 := h; clear h
 by_cases h : k = 7
 ·subst h; go_enter Tryz.func186, Tryz.ntmps186; go_wp2_with fail; exact bodyPost_ret (v := .tuple #[.bool true, .bool true, .bool false, .bool false, .bool false, .bool false]) (by simp [results, Tryz.results186, go_sem]) rfl ⟨by simp [toF, amountF, textF, argsF, sightF, proofF], rfl⟩
 have b7 : (k == 7) = false := beq_eq_false_iff_ne.2 h; have n7 := h; clear h
 by_cases h : k = 8
 ·subst h; go_enter Tryz.func186, Tryz.ntmps186; go_wp2_with fail; exact bodyPost_ret (v := .tuple #[.bool true, .bool true, .bool false, .bool false, .bool false, .bool false]) (by simp [results, Tryz.results186, go_sem]) rfl ⟨by simp [toF, amountF, textF, argsF, sightF, proofF], rfl⟩
 have b8 : (k == 8) = false := beq_eq_false_iff_ne.2 h; have n8 := h; clear h
 by_cases h : k = 4
 ·subst h; go_enter Tryz.func186, Tryz.ntmps186; go_wp2_with fail; exact bodyPost_ret (v := .tuple #[.bool false, .bool true, .bool false, .bool false, .bool false, .bool false]) (by simp [results, Tryz.results186, go_sem]) rfl ⟨by simp [toF, amountF, textF, argsF, sightF, proofF], rfl⟩
 have b4 : (k == 4) = false := beq_eq_false_iff_ne.2 h; have n4 := h; clear h
 by_cases h : k = 5
 ·subst h; go_enter Tryz.func186, Tryz.ntmps186; go_wp2_with fail; exact bodyPost_ret (v := .tuple #[.bool false, .bool true, .bool false, .bool false, .bool false, .bool false]) (by simp [results, Tryz.results186, go_sem]) rfl ⟨by simp [toF, amountF, textF, argsF, sightF, proofF], rfl⟩
 have b5 : (k == 5) = false := beq_eq_false_iff_ne.2 h; have n5 := h; clear h
 by_cases h : k = 2
 ·subst h; go_enter Tryz.func186, Tryz.ntmps186; go_wp2_with fail; exact bodyPost_ret (v := .tuple #[.bool false, .bool true, .bool true, .bool false, .bool false, .bool false]) (by simp [results, Tryz.results186, go_sem]) rfl ⟨by simp [toF, amountF, textF, argsF, sightF, proofF], rfl⟩
 have b2 : (k == 2) = false := beq_eq_false_iff_ne.2 h; have n2 := h; clear h
 by_cases h : k = 9
 ·subst h; go_enter Tryz.func186, Tryz.ntmps186; go_wp2_with fail; exact bodyPost_ret (v := .tuple #[.bool false, .bool false, .bool false, .bool false, .bool true, .bool false]) (by simp [results, Tryz.results186, go_sem]) rfl ⟨by simp [toF, amountF, textF, argsF, sightF, proofF], rfl⟩
 have b9 : (k == 9) = false := beq_eq_false_iff_ne.2 h; have n9 := h; clear h
 by_cases h : k = 10
 ·subst h; go_enter Tryz.func186, Tryz.ntmps186; go_wp2_with fail; exact bodyPost_ret (v := .tuple #[.bool false, .bool false, .bool false, .bool false, .bool false, .bool true]) (by simp [results, Tryz.results186, go_sem]) rfl ⟨by simp [toF, amountF, textF, argsF, sightF, proofF], rfl⟩
 have b10 : (k == 10) = false := beq_eq_false_iff_ne.2 h; have n10 := h; clear h; go_enter Tryz.func186, Tryz.ntmps186; go_wp2_with fail; exact bodyPost_ret (v := .tuple #[.bool false, .bool false, .bool false, .bool false, .bool false, .bool false]) (by simp [results, Tryz.results186, go_sem]) rfl ⟨by rw [h0.out, h1.out, h2.out, h3.out, h4.out, h5.out, h0.out]; simp [*], rfl⟩
set_option maxRecDepth 100000 in
set_option maxHeartbeats 1000000 in
theorem putsSight_any (l : List SightD) (A : Option Addr) (c B : Nat) (m : Int) (w : World) (g : Nat) (S : Out) (h : Wrt w g S) (hr : SightsL w B A l) (hB : B ≤ g) (hd : ∀ x ∈ l, x.held w B) (hl : S.b.length + 6 + sumL sightW l ≤ 58999999980000) (hm : l.length ≤ maxLen) :
  Calls Tryz.prog 183 #[.pointer (some ⟨g, 0, none⟩), .slice A l.length c, .int .i64 m, .func (.func 184) #[] #[]] w fun e w' => e = .returned (.tuple #[]) ∧ Wrt w' g (S.list l m Out.sight) ∧ Turned w w' g := by
 unfold maxLen at hm; have hgt := h.lt; have hn := ((S.lim l.length m).num_len l.length)
 have hb0 : (S.lim l.length m).b.length = S.b.length := rfl; have hE : Hid (S.list l m Out.sight = l.foldl Out.sight ((S.lim l.length m).num l.length)) := rfl; go_enter Tryz.func183, Tryz.ntmps183; go_wp2_with fail; refine (limited_any _ _ _ g _ h).mono ?_; rintro e w1 ⟨rfl, hW1, hT1⟩; go_wp2_with fail; refine (number_any _ _ g _ hW1 (by omega)).mono ?_; rintro e w2 ⟨rfl, hW2, hT2⟩; have hT02 := hT1.trans hT2; clear hT1 hT2 hW1; generalize (S.lim l.length m).num l.length = S2 at *; go_wp2_with fail
 go_loopw [9, 21] (fun _ i wr => ∃ j : Nat, i = .int .i64 (j : Int) ∧ j ≤ l.length ∧ Wrt wr g ((l.take j).foldl Out.sight S2) ∧ Turned w wr g) (fun _ i _ => l.length - (intOf i).toNat)
 case atStart => exact ⟨0, rfl, by omega, by simpa using hW2, hT02⟩
 case round =>
  obtain ⟨j, rfl, hj, hW, hT⟩ := hrel; have hgw := hW.lt
  by_cases hlt : j < l.length
  ·have hji : (j : Int) < (l.length : Int) := by omega
   obtain ⟨b, off, rfl, hbB, hc⟩ := SightsL.at_ (hT.rd hr hB) hlt; have HS := Lib.hid (fold_take Out.sight S2 l j hlt); have hle := fold_len Out.sight sightW Out.sight_len (l.take j) S2; have hle2 := sumL_take sightW l j hlt; have hx := (hd l[j] (List.getElem_mem hlt)).below (hT.low.mono hB); generalize hxx : l[j] = x at *; clear hxx; have c0 : wr.cell? ⟨b, off + j * 16, none⟩ = some (.int .i64 x.header.c) := hc 0 _ rfl; have c1 : wr.cell? ⟨b, off + j * 16 + 1, none⟩ = some (.int .i64 x.header.h) := hc 1 _ rfl; have c2 : wr.cell? ⟨b, off + j * 16 + 2, none⟩ = some (.int .u64 x.header.p) := hc 2 _ rfl; have c3 : wr.cell? ⟨b, off + j * 16 + 3, none⟩ = some (.int .u64 x.header.t) := hc 3 _ rfl; have c4 : wr.cell? ⟨b, off + j * 16 + 4, none⟩ = some (.int .u64 x.header.g) := hc 4 _ rfl; have c5 : wr.cell? ⟨b, off + j * 16 + 5, none⟩ = some (.int .u64 x.header.s) := hc 5 _ rfl; have c6 : wr.cell? ⟨b, off + j * 16 + 6, none⟩ = some (.int .u64 x.header.r) := hc 6 _ rfl; have c7 : wr.cell? ⟨b, off + j * 16 + 7, none⟩ = some (.int .u64 x.header.b) := hc 7 _ rfl; have c8 : wr.cell? ⟨b, off + j * 16 + 8, none⟩ = some (.int .i64 x.header.o) := hc 8 _ rfl; have c9 : wr.cell? ⟨b, off + j * 16 + 9, none⟩ = some (.int .i64 x.cert.h) := hc 9 _ rfl; have c10 : wr.cell? ⟨b, off + j * 16 + 10, none⟩ = some (.int .i64 x.cert.r) := hc 10 _ rfl; have c11 : wr.cell? ⟨b, off + j * 16 + 11, none⟩ = some (.int .i64 x.cert.s) := hc 11 _ rfl; have c12 : wr.cell? ⟨b, off + j * 16 + 12, none⟩ = some (.bool x.cert.has) := hc 12 _ rfl; have c13 : wr.cell? ⟨b, off + j * 16 + 13, none⟩ = some (.int .u64 x.cert.b) := hc 13 _ rfl; have c14 : wr.cell? ⟨b, off + j * 16 + 14, none⟩ = some (.slice x.cert.fa x.cert.froms.length x.cert.fc) := hc 14 _ rfl; have c15 : wr.cell? ⟨b, off + j * 16 + 15, none⟩ = some (.slice x.sa x.seats.length x.sc) := hc 15 _ rfl; clear hc; go_wp2_with fail
   refine (wsight_any x B _ g _ (hW.alloc _) (by unfold sightW at *; omega) (hx.below ((Below.refl B wr).alloc (by omega) _)) hB).mono ?_; rintro e w3 ⟨rfl, hW3, hT3⟩; go_wp2_with fail
   go_roundw
   case rel => exact ⟨j + 1, by go_num, by omega, by rw [HS.out]; exact hW3, (hT.alloc (Nat.le_of_lt hgw) _).trans hT3⟩
   case measure => simp [intOf]; omega
  ·have hji : ¬ (j : Int) < (l.length : Int) := by omega
   go_wp2
   go_end0
   rw [List.take_of_length_le (by omega)] at hW; exact ⟨rfl, by rw [hE.out]; exact hW, hT⟩
set_option maxRecDepth 100000 in
set_option maxHeartbeats 1000000 in
theorem putsProof_any (l : List ProofD) (A : Option Addr) (c B : Nat) (m : Int) (w : World) (g : Nat) (S : Out) (h : Wrt w g S) (hr : ProofsL w B A l) (hB : B ≤ g) (hd : ∀ x ∈ l, x.held w B) (hl : S.b.length + 6 + sumL proofW l ≤ 58999999980000) (hm : l.length ≤ maxLen) :
  Calls Tryz.prog 185 #[.pointer (some ⟨g, 0, none⟩), .slice A l.length c, .int .i64 m, .func (.func 97) #[] #[]] w fun e w' => e = .returned (.tuple #[]) ∧ Wrt w' g (S.list l m Out.proof) ∧ Turned w w' g := by
 unfold maxLen at hm; have hgt := h.lt; have hn := ((S.lim l.length m).num_len l.length)
 have hb0 : (S.lim l.length m).b.length = S.b.length := rfl; have hE : Hid (S.list l m Out.proof = l.foldl Out.proof ((S.lim l.length m).num l.length)) := rfl; go_enter Tryz.func185, Tryz.ntmps185; go_wp2_with fail; refine (limited_any _ _ _ g _ h).mono ?_; rintro e w1 ⟨rfl, hW1, hT1⟩; go_wp2_with fail; refine (number_any _ _ g _ hW1 (by omega)).mono ?_; rintro e w2 ⟨rfl, hW2, hT2⟩; have hT02 := hT1.trans hT2; clear hT1 hT2 hW1; generalize (S.lim l.length m).num l.length = S2 at *; go_wp2_with fail
 go_loopw [9, 21] (fun _ i wr => ∃ j : Nat, i = .int .i64 (j : Int) ∧ j ≤ l.length ∧ Wrt wr g ((l.take j).foldl Out.proof S2) ∧ Turned w wr g) (fun _ i _ => l.length - (intOf i).toNat)
 case atStart => exact ⟨0, rfl, by omega, by simpa using hW2, hT02⟩
 case round =>
  obtain ⟨j, rfl, hj, hW, hT⟩ := hrel; have hgw := hW.lt
  by_cases hlt : j < l.length
  ·have hji : (j : Int) < (l.length : Int) := by omega
   obtain ⟨b, off, rfl, hbB, hc⟩ := ProofsL.at_ (hT.rd hr hB) hlt; have HS := Lib.hid (fold_take Out.proof S2 l j hlt); have hle := fold_len Out.proof proofW Out.proof_lenW (l.take j) S2; have hle2 := sumL_take proofW l j hlt; have hx := (hd l[j] (List.getElem_mem hlt)).below (hT.low.mono hB); generalize hxx : l[j] = x at *; clear hxx; have c0 : wr.cell? ⟨b, off + j * 4, none⟩ = some (.slice x.ta x.turns.length x.tc) := hc 0 _ rfl; have c1 : wr.cell? ⟨b, off + j * 4 + 1, none⟩ = some (.bool x.leaf) := hc 1 _ rfl; have c2 : wr.cell? ⟨b, off + j * 4 + 2, none⟩ = some (.string (bs x.key)) := hc 2 _ rfl; have c3 : wr.cell? ⟨b, off + j * 4 + 3, none⟩ = some (.string (bs x.value)) := hc 3 _ rfl; clear hc; go_wp2_with fail; refine (wproof_any x B _ g _ (hW.alloc _) (by unfold proofW at *; omega) (hx.below ((Below.refl B wr).alloc (by omega) _)) hB).mono ?_; rintro e w3 ⟨rfl, hW3, hT3⟩; go_wp2_with fail
   go_roundw
   case rel => exact ⟨j + 1, by go_num, by omega, by rw [HS.out]; exact hW3, (hT.alloc (Nat.le_of_lt hgw) _).trans hT3⟩
   case measure => simp [intOf]; omega
  ·have hji : ¬ (j : Int) < (l.length : Int) := by omega
   go_wp2
   go_end0
   rw [List.take_of_length_le (by omega)] at hW; exact ⟨rfl, by rw [hE.out]; exact hW, hT⟩
set_option maxRecDepth 100000 in
set_option maxHeartbeats 2000000 in
theorem wtx_any (x : TxD) (B : Nat) (w : World) (g : Nat) (S : Out) (h : Wrt w g S) (hl : S.b.length + 40 * txM x ≤ 58999999970000) (hx : x.held w B) (hB : B ≤ g) :
  Calls Tryz.prog 103 #[.pointer (some ⟨g, 0, none⟩), x.val] w fun e w' => e = .returned (.tuple #[]) ∧ Wrt w' g (S.tx x) ∧ Turned w w' g := by
 have hgt := h.lt; have hE : Hid (S.tx x = (((((((S.nums [x.k, x.f, x.n, x.p, x.l, x.t, x.a]).text x.text 2048).list x.args 8 Out.num).list x.sights 1 Out.sight).list x.proofs 1 Out.proof).need (txOk1 x)).need (txOk2 x)).need (txOk3 x)) := rfl; obtain ⟨x1, x2, x3, x4, x5, x6, x7, x8, al, aA, ac, ss, sA, sc, ps, pA, pc⟩ := x; simp only [txM] at hl; dsimp only [TxD.val]; obtain ⟨hxa, hxs, hxp, ⟨hs0, hs1, hs2⟩, hxq, hxo⟩ := hx; dsimp only at hxa hxs hxp hs0 hs1 hs2 hxq hxo; have hsw : sumL numW al = 6 * al.length := sumL_const 6 al; have hsw1 := sights_W ss; have hsw2 := proofs_W ps; go_enter Tryz.func103, Tryz.ntmps103; go_wp2_with fail; generalize Value.agg #[.int .i64 x1, .int .i64 x2, .int .i64 x3, .int .i64 x4, .int .i64 x5, .int .i64 x6, .int .i64 x7, .string (bs x8), .slice aA al.length ac, .slice sA ss.length sc, .slice pA ps.length pc] = V; have ll1 := S.nums_len [x1, x2, x3, x4, x5, x6, x7]; simp only [List.length_cons, List.length_nil] at ll1; refine (numbers_any [x1, x2, x3, x4, x5, x6, x7] 7 _ g (w.heap.size + 1) S ((h.alloc _).alloc _) (by have hN := Blk.new (w.alloc (.cells #[.int .i64 x1, .int .i64 x2, .int .i64 x3, .int .i64 x4, .int .i64 x5, .int .i64 x6, .int .i64 x7, .string (bs x8), .slice aA al.length ac, .slice sA ss.length sc, .slice pA ps.length pc] 94)) 3 #[.int .i64 x1, .int .i64 x2, .int .i64 x3, .int .i64 x4, .int .i64 x5, .int .i64 x6, .int .i64 x7]; simpa using hN) (by omega) (by simp; omega)).mono ?_; rintro e w1 ⟨rfl, hW1, hC1⟩; have hB1 := hC1.blk ((Blk.new _ _ _).alloc _) (by omega) (by decide); have hT1 := (((Turned.refl w g).alloc (by omega) _).alloc (by simp; omega) _).trans hC1; have hlt1 := hB1.lt; have hgl1 := hW1.lt; generalize S.nums [x1, x2, x3, x4, x5, x6, x7] = S1 at *; have c1_0 := hB1.c 0 rfl; have c1_1 := hB1.c 1 rfl; have c1_2 := hB1.c 2 rfl; have c1_3 := hB1.c 3 rfl; have c1_4 := hB1.c 4 rfl; have c1_5 := hB1.c 5 rfl; have c1_6 := hB1.c 6 rfl
 have c1_7 := hB1.c 7 rfl; have c1_8 := hB1.c 8 rfl; have c1_9 := hB1.c 9 rfl; have c1_10 := hB1.c 10 rfl; go_wp2_with fail; refine (text_anyW x8 2048 _ g _ hW1 (by omega)).mono ?_; rintro e w2 ⟨rfl, hW2, hC2⟩; have hB2 := hC2.blk hB1 (by omega) (by decide); have hT2 := hT1.trans hC2; have hlt2 := hB2.lt; have hgl2 := hW2.lt; have ll2 := S1.text_len x8 2048; generalize S1.text x8 2048 = S2 at *; have c2_0 := hB2.c 0 rfl; have c2_1 := hB2.c 1 rfl; have c2_2 := hB2.c 2 rfl; have c2_3 := hB2.c 3 rfl; have c2_4 := hB2.c 4 rfl; have c2_5 := hB2.c 5 rfl; have c2_6 := hB2.c 6 rfl; have c2_7 := hB2.c 7 rfl; have c2_8 := hB2.c 8 rfl; have c2_9 := hB2.c 9 rfl; have c2_10 := hB2.c 10 rfl; go_wp2_with fail; refine (putsInt_any al aA ac B 8 _ g _ hW2 (hT2.rd hxa hB) hB (by omega) hs0).mono ?_; rintro e w3 ⟨rfl, hW3, hC3⟩; have hB3 := hC3.blk hB2 (by omega) (by decide); have hT3 := hT2.trans hC3; have hlt3 := hB3.lt; have hgl3 := hW3.lt; have ll3 := list_len Out.num numW Out.num_lenW al 8 S2; generalize S2.list al 8 Out.num = S3 at *; have c3_0 := hB3.c 0 rfl; have c3_1 := hB3.c 1 rfl; have c3_2 := hB3.c 2 rfl; have c3_3 := hB3.c 3 rfl; have c3_4 := hB3.c 4 rfl; have c3_5 := hB3.c 5 rfl; have c3_6 := hB3.c 6 rfl; have c3_7 := hB3.c 7 rfl; have c3_8 := hB3.c 8 rfl; have c3_9 := hB3.c 9 rfl; have c3_10 := hB3.c 10 rfl; go_wp2_with fail; refine (putsSight_any ss sA sc B 1 _ g _ hW3 (hT3.rd hxs hB) hB (fun y hy => (hxq y hy).below (hT3.low.mono hB)) (by omega) hs1).mono ?_; rintro e w4 ⟨rfl, hW4, hC4⟩; have hB4 := hC4.blk hB3 (by omega) (by decide); have hT4 := hT3.trans hC4; have hlt4 := hB4.lt; have hgl4 := hW4.lt; have ll4 := list_len Out.sight sightW Out.sight_len ss 1 S3; generalize S3.list ss 1 Out.sight = S4 at *; have c4_0 := hB4.c 0 rfl; have c4_1 := hB4.c 1 rfl; have c4_2 := hB4.c 2 rfl; have c4_3 := hB4.c 3 rfl; have c4_4 := hB4.c 4 rfl; have c4_5 := hB4.c 5 rfl; have c4_6 := hB4.c 6 rfl; have c4_7 := hB4.c 7 rfl; have c4_8 := hB4.c 8 rfl; have c4_9 := hB4.c 9 rfl
 have c4_10 := hB4.c 10 rfl; go_wp2_with fail; refine (putsProof_any ps pA pc B 1 _ g _ hW4 (hT4.rd hxp hB) hB (fun y hy => (hxo y hy).below (hT4.low.mono hB)) (by omega) hs2).mono ?_; rintro e w5 ⟨rfl, hW5, hC5⟩; have hB5 := hC5.blk hB4 (by omega) (by decide); have hT5 := hT4.trans hC5; have hlt5 := hB5.lt; have hgl5 := hW5.lt; have ll5 := list_len Out.proof proofW Out.proof_lenW ps 1 S4; generalize S4.list ps 1 Out.proof = S5 at *; have c5_0 := hB5.c 0 rfl; have c5_1 := hB5.c 1 rfl; have c5_2 := hB5.c 2 rfl; have c5_3 := hB5.c 3 rfl; have c5_4 := hB5.c 4 rfl; have c5_5 := hB5.c 5 rfl; have c5_6 := hB5.c 6 rfl; have c5_7 := hB5.c 7 rfl; have c5_8 := hB5.c 8 rfl; have c5_9 := hB5.c 9 rfl; have c5_10 := hB5.c 10 rfl; go_wp2_with fail; refine (fields_any _ _).mono ?_; rintro e w' ⟨rfl, rfl⟩; have hK1 : Hid (txOk1 ⟨x1, x2, x3, x4, x5, x6, x7, x8, al, aA, ac, ss, sA, sc, ps, pA, pc⟩ = (decide (1 ≤ x1) && decide (x1 ≤ 10) && decide (1 ≤ x2) && (toF x1 == decide (1 ≤ x6)))) := rfl; have hK2 : Hid (txOk2 ⟨x1, x2, x3, x4, x5, x6, x7, x8, al, aA, ac, ss, sA, sc, ps, pA, pc⟩ = ((amountF x1 || decide (x7 = 0)) && (textF x1 || emp x8) && (argsF x1 || decide (al.length = 0)))) := rfl; have hK3 : Hid (txOk3 ⟨x1, x2, x3, x4, x5, x6, x7, x8, al, aA, ac, ss, sA, sc, ps, pA, pc⟩ = ((sightF x1 == decide (ss.length = 1)) && (proofF x1 == decide (ps.length = 1)))) := rfl; generalize toF x1 = q1 at *; generalize amountF x1 = q2 at *; generalize textF x1 = q3 at *; generalize argsF x1 = q4 at *; generalize sightF x1 = q5 at *; generalize proofF x1 = q6 at *; rw [hK1.out, hK2.out, hK3.out] at hE; have he1 : Hid (decide (ss.length = 1) = ((ss.length : Int) == 1)) := by show _ = _; rw [Bool.eq_iff_iff]; simp; omega
 have he2 : Hid (decide (ps.length = 1) = ((ps.length : Int) == 1)) := by show _ = _; rw [Bool.eq_iff_iff]; simp; omega
 go_upto_region 7 with fail
 go_cut [4, 74] (fun _ x wc => x = .tuple #[] ∧ Wrt wc g (S5.need (decide (1 ≤ x1) && decide (x1 ≤ 10) && decide (1 ≤ x2) && (q1 == decide (1 ≤ x6)))) ∧ Blk wc w.heap.size 94 #[.int .i64 x1, .int .i64 x2, .int .i64 x3, .int .i64 x4, .int .i64 x5, .int .i64 x6, .int .i64 x7, .string (bs x8), .slice aA al.length ac, .slice sA ss.length sc, .slice pA ps.length pc] ∧ Turned w wc g)
 case first =>
  go_wp2_with fail
  all_goals
   refine (need_any _ _ g _ hW5).mono ?_; rintro e w6 ⟨rfl, hW6, hC6⟩; go_wp2_with fail
   go_meet
   exact ⟨rfl, hW6.eq (by congr 1; first | rfl | grind | grind [emp]), hC6.blk hB5 (by omega) (by decide), hT5.trans hC6⟩
 case rest =>
  obtain ⟨w6, rfl⟩ : ∃ x : World, x = wc := ⟨_, rfl⟩
  obtain ⟨rfl, hW6, hB6, hT6⟩ := hcut; have hlt6 := hB6.lt; have hgl6 := hW6.lt; have ll6 : (S5.need (decide (1 ≤ x1) && decide (x1 ≤ 10) && decide (1 ≤ x2) && (q1 == decide (1 ≤ x6)))).b.length = S5.b.length := rfl; generalize S5.need (decide (1 ≤ x1) && decide (x1 ≤ 10) && decide (1 ≤ x2) && (q1 == decide (1 ≤ x6))) = S6 at *; have c6_0 := hB6.c 0 rfl; have c6_1 := hB6.c 1 rfl; have c6_2 := hB6.c 2 rfl; have c6_3 := hB6.c 3 rfl; have c6_4 := hB6.c 4 rfl; have c6_5 := hB6.c 5 rfl; have c6_6 := hB6.c 6 rfl; have c6_7 := hB6.c 7 rfl; have c6_8 := hB6.c 8 rfl; have c6_9 := hB6.c 9 rfl; have c6_10 := hB6.c 10 rfl
  go_upto_region 8 with fail
  go_cut [5, 6, 7, 99] (fun _ _ _ x wc => x = .tuple #[] ∧ Wrt wc g (S6.need ((q2 || decide (x7 = 0)) && (q3 || emp x8) && (q4 || decide (al.length = 0)))) ∧ Blk wc w.heap.size 94 #[.int .i64 x1, .int .i64 x2, .int .i64 x3, .int .i64 x4, .int .i64 x5, .int .i64 x6, .int .i64 x7, .string (bs x8), .slice aA al.length ac, .slice sA ss.length sc, .slice pA ps.length pc] ∧ Turned w wc g)
  case first =>
   go_wp2_with fail
   all_goals
    refine (need_any _ _ g _ hW6).mono ?_; rintro e w7 ⟨rfl, hW7, hC7⟩; go_wp2_with fail
    go_meet
    exact ⟨rfl, hW7.eq (by congr 1; first | rfl | grind | grind [emp]), hC7.blk hB6 (by omega) (by decide), hT6.trans hC7⟩
  case rest =>
   obtain ⟨w7, rfl⟩ : ∃ x : World, x = wc := ⟨_, rfl⟩
   obtain ⟨rfl, hW7, hB7, hT7⟩ := hcut; have hlt7 := hB7.lt; have hgl7 := hW7.lt; have ll7 : (S6.need ((q2 || decide (x7 = 0)) && (q3 || emp x8) && (q4 || decide (al.length = 0)))).b.length = S6.b.length := rfl; generalize S6.need ((q2 || decide (x7 = 0)) && (q3 || emp x8) && (q4 || decide (al.length = 0))) = S7 at *; have c7_0 := hB7.c 0 rfl; have c7_1 := hB7.c 1 rfl; have c7_2 := hB7.c 2 rfl; have c7_3 := hB7.c 3 rfl; have c7_4 := hB7.c 4 rfl; have c7_5 := hB7.c 5 rfl; have c7_6 := hB7.c 6 rfl; have c7_7 := hB7.c 7 rfl; have c7_8 := hB7.c 8 rfl; have c7_9 := hB7.c 9 rfl; have c7_10 := hB7.c 10 rfl; go_wp2_with fail
   all_goals
    refine (need_any _ _ g _ hW7).mono ?_; rintro e w8 ⟨rfl, hW8, hC8⟩; have hB8 := hC8.blk hB7 (by omega) (by decide); have hT8 := hT7.trans hC8; have hlt8 := hB8.lt; have hgl8 := hW8.lt; go_wp2_with fail
    go_end0
    exact ⟨rfl, Wrt.eq hW8 (by rw [hE.out, he1.out, he2.out]; congr 1; grind), hT8⟩
set_option maxRecDepth 100000 in
set_option maxHeartbeats 400000 in
theorem write_bench (x : (List Seat)) (A : Option Addr) (c B : Nat) (w : World) (hr : SeatsL w B A x) (hB : B ≤ w.heap.size) (hl : x.length ≤ 65536) :
  Calls Tryz.prog 87 #[.slice A x.length c, .func (.func 85) #[] #[]] w fun e w' => e = .returned (.tuple #[.string (bs (Out.empty.bench x).rs), .int .i64 (Out.empty.bench x).re]) ∧ Below w.heap.size w w' := by
 go_enter Tryz.func87, Tryz.ntmps87; go_wp2_with fail; refine (wbench_any x A c B _ w.heap.size _ (Wrt.new w) (by first | exact hr.alloc hB _ | exact hr) hB (by simp [Out.empty]; omega) (by simp [maxLen]; omega)).mono ?_; rintro e w1 ⟨rfl, ⟨v, hb, ho⟩, hT1⟩; have hgl := hb.lt; have hS := hT1.size; have hBel : Below w.heap.size w w1 := (((Below.refl _ _).alloc (Nat.le_refl _) _) |>.trans (hT1.low.mono (by omega)))
 generalize hSE : Out.empty.bench x = S1 at *; have HSE := Lib.hid hSE; clear hSE; have c0 := hb.c 0 rfl; have c1 := hb.c 1 rfl; have c2 := hb.c 2 rfl; have hcv := conv_own w1 ho; clear hb ho; obtain ⟨b, far, odd⟩ := S1; dsimp only at *; cases far
 ·cases odd
  ·go_wp2_with fail
   go_ret2
   exact ⟨by rw [HSE.out]; rfl, hBel⟩
  ·go_wp2_with fail
   go_ret2
   exact ⟨by rw [HSE.out]; rfl, hBel⟩
 ·go_wp2_with fail
  go_ret2
  exact ⟨by rw [HSE.out]; rfl, hBel⟩
set_option maxRecDepth 100000 in
theorem put_bench (x : (List Seat)) (A : Option Addr) (c B : Nat) (w : World) (hr : SeatsL w B A x) (hB : B ≤ w.heap.size) (hl : x.length ≤ 65536) :
  Calls Tryz.prog 36 #[.slice A x.length c] w fun e w' => e = .returned (.tuple #[.string (bs (Out.empty.bench x).rs), .int .i64 (Out.empty.bench x).re]) ∧ Below w.heap.size w w' := by
 have hWr := write_bench x A c B w hr hB hl; generalize Out.empty.bench x = S1 at *; go_enter Tryz.func36, Tryz.ntmps36; go_wp2_with fail; refine hWr.mono ?_; rintro e w1 ⟨rfl, hb⟩; go_wp2_with fail
 go_ret2
 exact ⟨rfl, hb⟩
set_option maxRecDepth 100000 in
set_option maxHeartbeats 400000 in
theorem rput_bench (x : (List Seat)) (A : Option Addr) (c B : Nat) (w : World) (hr : SeatsL w B A x) (hB : B ≤ w.heap.size) (hl : x.length ≤ 65536) :
  Calls Tryz.prog 37 #[.slice A x.length c] w fun e w' => e = .returned (.tuple #[.string (bs (Out.empty.bench x).rs), .int .i64 (Out.empty.bench x).re]) ∧ Below w.heap.size w w' := by
 go_enter Tryz.func37, Tryz.ntmps37; go_wp2_with fail; refine (rbench_any x A c B _ w.heap.size _ (Ref.new w) (by first | exact hr.alloc hB _ | exact hr) hB (by simp [Out.empty]; omega) (by simp [maxLen]; omega)).mono ?_; rintro e w1 ⟨rfl, hW1, hT1⟩; have hgl1 := hW1.lt; have hS := hT1.size; have hBel : Below w.heap.size w w1 := (((Below.refl _ _).alloc (Nat.le_refl _) _) |>.trans (hT1.low.mono (by omega)))
 go_wp2_with fail; refine (rout_any _ _ _ hW1).mono ?_; rintro e w9 ⟨rfl, rfl⟩; go_wp2_with fail
 go_ret2
 exact ⟨rfl, hBel⟩
set_option maxRecDepth 100000 in
set_option maxHeartbeats 400000 in
theorem write_view (x : ViewD) (hx : x.ok) (B : Nat) (w : World) (hr : SeatsL w B x.sa x.seats) (hB : B ≤ w.heap.size) (hl : x.seats.length ≤ 65536) :
  Calls Tryz.prog 220 #[x.val, .func (.func 218) #[] #[]] w fun e w' => e = .returned (.tuple #[.string (bs (Out.empty.view x).rs), .int .i64 (Out.empty.view x).re]) ∧ Below w.heap.size w w' := by
 obtain ⟨x1, x2, x3, x4, x5, x6, x6a, x6c⟩ := x; dsimp only at hr hl; dsimp only [ViewD.val]; go_enter Tryz.func220, Tryz.ntmps220; go_wp2_with fail; refine (wview_any ⟨x1, x2, x3, x4, x5, x6, x6a, x6c⟩ hx _ (w.heap.size + 1) _ (by have hN := Wrt.new (w.alloc (.cells #[.int .i64 x1, .int .i64 x2, .int .i64 x3, .int .i64 x4, .int .u64 x5, .slice x6a x6.length x6c] 192)); simpa using hN) (by simp [Out.empty]; omega) B (by first | exact ((hr.alloc hB _).alloc (by simp; omega) _) | exact hr) (by omega) (by simp [maxLen]; omega)).mono ?_; rintro e w1 ⟨rfl, ⟨v, hb, ho⟩, hT1⟩; have hgl := hb.lt; have hS := hT1.size; have hBel : Below w.heap.size w w1 := (((Below.refl _ _).alloc (Nat.le_refl _) _).alloc (by simp) _ |>.trans (hT1.low.mono (by omega)))
 generalize hSE : Out.empty.view ⟨x1, x2, x3, x4, x5, x6, x6a, x6c⟩ = S1 at *; have HSE := Lib.hid hSE; clear hSE; have c0 := hb.c 0 rfl; have c1 := hb.c 1 rfl; have c2 := hb.c 2 rfl; have hcv := conv_own w1 ho; clear hb ho; obtain ⟨b, far, odd⟩ := S1; dsimp only at *; cases far
 ·cases odd
  ·go_wp2_with fail
   go_ret2
   exact ⟨by rw [HSE.out]; rfl, hBel⟩
  ·go_wp2_with fail
   go_ret2
   exact ⟨by rw [HSE.out]; rfl, hBel⟩
 ·go_wp2_with fail
  go_ret2
  exact ⟨by rw [HSE.out]; rfl, hBel⟩
set_option maxRecDepth 100000 in
theorem put_view (x : ViewD) (hx : x.ok) (B : Nat) (w : World) (hr : SeatsL w B x.sa x.seats) (hB : B ≤ w.heap.size) (hl : x.seats.length ≤ 65536) :
  Calls Tryz.prog 131 #[x.val] w fun e w' => e = .returned (.tuple #[.string (bs (Out.empty.view x).rs), .int .i64 (Out.empty.view x).re]) ∧ Below w.heap.size w w' := by
 have hWr := write_view x hx B (w.alloc (.cells #[.int .i64 x.c, .int .i64 x.w, .int .i64 x.e, .int .i64 x.h, .int .u64 x.s, .slice x.sa x.seats.length x.sc] 192)) (hr.alloc hB _) (by simp; omega) hl; generalize Out.empty.view x = S1 at *; obtain ⟨x1, x2, x3, x4, x5, x6, x6a, x6c⟩ := x; dsimp only at hr hl; dsimp only [ViewD.val] at *; go_enter Tryz.func131, Tryz.ntmps131; go_wp2_with fail; refine hWr.mono ?_; rintro e w1 ⟨rfl, hb⟩; go_wp2_with fail
 go_ret2
 exact ⟨rfl, ((Below.refl _ _).alloc (Nat.le_refl _) _).trans (hb.mono (by simp))⟩
set_option maxRecDepth 100000 in
set_option maxHeartbeats 400000 in
theorem rput_view (x : ViewD) (hx : x.ok) (B : Nat) (w : World) (hr : SeatsL w B x.sa x.seats) (hB : B ≤ w.heap.size) (hl : x.seats.length ≤ 65536) :
  Calls Tryz.prog 132 #[x.val] w fun e w' => e = .returned (.tuple #[.string (bs (Out.empty.view x).rs), .int .i64 (Out.empty.view x).re]) ∧ Below w.heap.size w w' := by
 obtain ⟨x1, x2, x3, x4, x5, x6, x6a, x6c⟩ := x; dsimp only at hr hl; dsimp only [ViewD.val]; go_enter Tryz.func132, Tryz.ntmps132; go_wp2_with fail; refine (rview_any ⟨x1, x2, x3, x4, x5, x6, x6a, x6c⟩ hx _ (w.heap.size + 1) _ (by have hN := Ref.new (w.alloc (.cells #[.int .i64 x1, .int .i64 x2, .int .i64 x3, .int .i64 x4, .int .u64 x5, .slice x6a x6.length x6c] 192)); simpa using hN) (by simp [Out.empty]; omega) B (by first | exact ((hr.alloc hB _).alloc (by simp; omega) _) | exact hr) (by omega) (by simp [maxLen]; omega)).mono ?_; rintro e w1 ⟨rfl, hW1, hT1⟩; have hgl1 := hW1.lt; have hS := hT1.size; have hBel : Below w.heap.size w w1 := (((Below.refl _ _).alloc (Nat.le_refl _) _).alloc (by simp) _ |>.trans (hT1.low.mono (by omega)))
 go_wp2_with fail; refine (rout_any _ _ _ hW1).mono ?_; rintro e w9 ⟨rfl, rfl⟩; go_wp2_with fail
 go_ret2
 exact ⟨rfl, hBel⟩
set_option maxRecDepth 100000 in
set_option maxHeartbeats 400000 in
theorem write_result (x : ResultD) (B : Nat) (w : World) (hr : NotesL w B x.na x.notes) (hB : B ≤ w.heap.size) (hl : x.notes.length ≤ 65536) :
  Calls Tryz.prog 226 #[x.val, .func (.func 224) #[] #[]] w fun e w' => e = .returned (.tuple #[.string (bs (Out.empty.result x).rs), .int .i64 (Out.empty.result x).re]) ∧ Below w.heap.size w w' := by
 obtain ⟨x1, x2, x3, x4, x4a, x4c⟩ := x; dsimp only at hr hl; dsimp only [ResultD.val]; go_enter Tryz.func226, Tryz.ntmps226; go_wp2_with fail; refine (wresult_any ⟨x1, x2, x3, x4, x4a, x4c⟩ _ (w.heap.size + 1) _ (by have hN := Wrt.new (w.alloc (.cells #[.int .i64 x1, .int .i64 x2, .int .i64 x3, .slice x4a x4.length x4c] 198)); simpa using hN) (by simp [Out.empty]; omega) B (by first | exact ((hr.alloc hB _).alloc (by simp; omega) _) | exact hr) (by omega) (by simp [maxLen]; omega)).mono ?_; rintro e w1 ⟨rfl, ⟨v, hb, ho⟩, hT1⟩; have hgl := hb.lt; have hS := hT1.size; have hBel : Below w.heap.size w w1 := (((Below.refl _ _).alloc (Nat.le_refl _) _).alloc (by simp) _ |>.trans (hT1.low.mono (by omega)))
 generalize hSE : Out.empty.result ⟨x1, x2, x3, x4, x4a, x4c⟩ = S1 at *; have HSE := Lib.hid hSE; clear hSE; have c0 := hb.c 0 rfl; have c1 := hb.c 1 rfl; have c2 := hb.c 2 rfl; have hcv := conv_own w1 ho; clear hb ho; obtain ⟨b, far, odd⟩ := S1; dsimp only at *; cases far
 ·cases odd
  ·go_wp2_with fail
   go_ret2
   exact ⟨by rw [HSE.out]; rfl, hBel⟩
  ·go_wp2_with fail
   go_ret2
   exact ⟨by rw [HSE.out]; rfl, hBel⟩
 ·go_wp2_with fail
  go_ret2
  exact ⟨by rw [HSE.out]; rfl, hBel⟩
set_option maxRecDepth 100000 in
theorem put_result (x : ResultD) (B : Nat) (w : World) (hr : NotesL w B x.na x.notes) (hB : B ≤ w.heap.size) (hl : x.notes.length ≤ 65536) :
  Calls Tryz.prog 135 #[x.val] w fun e w' => e = .returned (.tuple #[.string (bs (Out.empty.result x).rs), .int .i64 (Out.empty.result x).re]) ∧ Below w.heap.size w w' := by
 have hWr := write_result x B (w.alloc (.cells #[.int .i64 x.c, .int .i64 x.u, .int .i64 x.v, .slice x.na x.notes.length x.nc] 198)) (hr.alloc hB _) (by simp; omega) hl; generalize Out.empty.result x = S1 at *; obtain ⟨x1, x2, x3, x4, x4a, x4c⟩ := x; dsimp only at hr hl; dsimp only [ResultD.val] at *; go_enter Tryz.func135, Tryz.ntmps135; go_wp2_with fail; refine hWr.mono ?_; rintro e w1 ⟨rfl, hb⟩; go_wp2_with fail
 go_ret2
 exact ⟨rfl, ((Below.refl _ _).alloc (Nat.le_refl _) _).trans (hb.mono (by simp))⟩
set_option maxRecDepth 100000 in
set_option maxHeartbeats 400000 in
theorem rput_result (x : ResultD) (B : Nat) (w : World) (hr : NotesL w B x.na x.notes) (hB : B ≤ w.heap.size) (hl : x.notes.length ≤ 65536) :
  Calls Tryz.prog 136 #[x.val] w fun e w' => e = .returned (.tuple #[.string (bs (Out.empty.result x).rs), .int .i64 (Out.empty.result x).re]) ∧ Below w.heap.size w w' := by
 obtain ⟨x1, x2, x3, x4, x4a, x4c⟩ := x; dsimp only at hr hl; dsimp only [ResultD.val]; go_enter Tryz.func136, Tryz.ntmps136; go_wp2_with fail; refine (rresult_any ⟨x1, x2, x3, x4, x4a, x4c⟩ _ (w.heap.size + 1) _ (by have hN := Ref.new (w.alloc (.cells #[.int .i64 x1, .int .i64 x2, .int .i64 x3, .slice x4a x4.length x4c] 198)); simpa using hN) (by simp [Out.empty]; omega) B (by first | exact ((hr.alloc hB _).alloc (by simp; omega) _) | exact hr) (by omega) (by simp [maxLen]; omega)).mono ?_; rintro e w1 ⟨rfl, hW1, hT1⟩; have hgl1 := hW1.lt; have hS := hT1.size; have hBel : Below w.heap.size w w1 := (((Below.refl _ _).alloc (Nat.le_refl _) _).alloc (by simp) _ |>.trans (hT1.low.mono (by omega)))
 go_wp2_with fail; refine (rout_any _ _ _ hW1).mono ?_; rintro e w9 ⟨rfl, rfl⟩; go_wp2_with fail
 go_ret2
 exact ⟨rfl, hBel⟩
end Go.Proofs.YtjhaafbbdgjagaaGreat
