/- The program's writer: headers, proofs, sights. -/
import Derived.Test.YtjjkdmngmopjbaaProg
import Derived.Test.YtjjkdmngmopjbaaWr13
namespace Go.Proofs.Ytjjkdmngmopjbaa
open Go.RowKit
set_option maxRecDepth 100000 in
set_option maxHeartbeats 1000000 in
theorem wheader_any (x : HeaderD) (hx : x.ok) (w : World) (g : Nat) (S : Out) (h : Wrt w g S) (hl : S.b.length + 2000 ≤ 70368744177000) :
    Calls Try.prog 115 #[.pointer (some ⟨g, 0, none⟩), x.val] w fun e w' => e = .returned (.tuple #[]) ∧ Wrt w' g (S.header x) ∧ Turned w w' g := by
  have hgt := h.lt
  have hE : Hid (S.header x = ((S.nums [x.c, x.h]).digs [x.p, x.t, x.g, x.s, x.r, x.b]).num x.o) := rfl
  obtain ⟨x1, x2, x3, x4, x5, x6, x7, x8, x9⟩ := x
  obtain ⟨⟨p0, p1⟩, ⟨t0, t1⟩, ⟨g0, g1⟩, ⟨s0, s1⟩, ⟨r0, r1⟩, ⟨b0, b1⟩⟩ := hx
  dsimp only at p0 p1 t0 t1 g0 g1 s0 s1 r0 r1 b0 b1
  dsimp only [HeaderD.val]
  go_enter Try.func115, Try.ntmps115
  go_wp2_with fail
  have ll1 := S.nums_len [x1, x2]
  simp only [List.length_cons, List.length_nil] at ll1
  refine (numbers_any [x1, x2] 2 _ g (w.heap.size + 1) S ((h.alloc _).alloc _) (by have hN := Blk.new (w.alloc (.cells #[.int .i64 x1, .int .i64 x2, .int .u64 x3, .int .u64 x4, .int .u64 x5, .int .u64 x6, .int .u64 x7, .int .u64 x8, .int .i64 x9] 27)) 3 #[.int .i64 x1, .int .i64 x2]; simpa using hN) (by omega) (by simp; omega)).mono ?_
  rintro e w1 ⟨rfl, hW1, hC1⟩
  have hB1 := hC1.blk ((Blk.new _ _ _).alloc _) (by omega) (by decide)
  have hT1 := (((Turned.refl w g).alloc (by omega) _).alloc (by simp; omega) _).trans hC1
  have hlt1 := hB1.lt
  have hgl1 := hW1.lt
  generalize S.nums [x1, x2] = S1 at *
  have c1_0 := (hB1.cell 0).trans (show _ = some (.int .i64 x1) from rfl)
  have c1_1 := (hB1.cell 1).trans (show _ = some (.int .i64 x2) from rfl)
  have c1_2 := (hB1.cell 2).trans (show _ = some (.int .u64 x3) from rfl)
  have c1_3 := (hB1.cell 3).trans (show _ = some (.int .u64 x4) from rfl)
  have c1_4 := (hB1.cell 4).trans (show _ = some (.int .u64 x5) from rfl)
  have c1_5 := (hB1.cell 5).trans (show _ = some (.int .u64 x6) from rfl)
  have c1_6 := (hB1.cell 6).trans (show _ = some (.int .u64 x7) from rfl)
  have c1_7 := (hB1.cell 7).trans (show _ = some (.int .u64 x8) from rfl)
  have c1_8 := (hB1.cell 8).trans (show _ = some (.int .i64 x9) from rfl)
  have c1_2 := (hB1.cell 2).trans (show _ = some (.int .u64 x3) from rfl)
  have c1_3 := (hB1.cell 3).trans (show _ = some (.int .u64 x4) from rfl)
  have c1_4 := (hB1.cell 4).trans (show _ = some (.int .u64 x5) from rfl)
  have c1_5 := (hB1.cell 5).trans (show _ = some (.int .u64 x6) from rfl)
  have c1_6 := (hB1.cell 6).trans (show _ = some (.int .u64 x7) from rfl)
  have c1_7 := (hB1.cell 7).trans (show _ = some (.int .u64 x8) from rfl)
  have hlq : ([x3, x4, x5, x6, x7, x8] : List Int).length = 6 := rfl
  have hdk : ∀ d ∈ [x3, x4, x5, x6, x7, x8], 0 ≤ d ∧ d < 18446744073709551616 := by
    intro d hd
    simp at hd
    rcases hd with rfl | rfl | rfl | rfl | rfl | rfl <;> omega
  have HDK := Lib.hid hdk
  clear hdk
  have hN : Blk (w1.alloc (.cells #[.int .u64 x3, .int .u64 x4, .int .u64 x5, .int .u64 x6, .int .u64 x7, .int .u64 x8] 23)) w1.heap.size 23 (([x3, x4, x5, x6, x7, x8] : List Int).map (Value.int .u64)).toArray := Blk.new _ _ _
  have hWn := hW1.alloc (.cells #[.int .u64 x3, .int .u64 x4, .int .u64 x5, .int .u64 x6, .int .u64 x7, .int .u64 x8] 23)
  have hBn := hB1.alloc (.cells #[.int .u64 x3, .int .u64 x4, .int .u64 x5, .int .u64 x6, .int .u64 x7, .int .u64 x8] 23)
  have hTn := hT1.alloc (by omega) (.cells #[.int .u64 x3, .int .u64 x4, .int .u64 x5, .int .u64 x6, .int .u64 x7, .int .u64 x8] 23)
  go_wp2_with fail
  generalize hdl : ([x3, x4, x5, x6, x7, x8] : List Int) = dl at *
  have HDL := Lib.hid hdl
  clear hdl
  go_loopw [5, 27] (fun _ i wr => ∃ j : Nat, i = .int .i64 (j : Int) ∧ j ≤ 6 ∧ Wrt wr g ((dl.take j).foldl Out.dig S1) ∧ Blk wr w1.heap.size 23 (dl.map (Value.int .u64)).toArray ∧ Blk wr w.heap.size 27 #[.int .i64 x1, .int .i64 x2, .int .u64 x3, .int .u64 x4, .int .u64 x5, .int .u64 x6, .int .u64 x7, .int .u64 x8, .int .i64 x9] ∧ Turned w wr g) (fun _ i _ => 6 - (intOf i).toNat)
  case atStart => exact ⟨0, rfl, by omega, by simpa using hWn, hN, hBn, hTn⟩
  case round =>
    obtain ⟨j, rfl, hj, hW, hDg, hBx, hT⟩ := hrel
    by_cases hlt : j < 6
    · have hji : (j : Int) < 6 := by omega
      have hl2 : j < dl.length := by omega
      have d0 : wr.cell? ⟨w1.heap.size, j, none⟩ = some (.int .u64 dl[j]) := (hDg.cell j).trans (by simp [List.getElem?_eq_getElem hl2])
      have HS := Lib.hid (fold_take Out.dig S1 dl j hl2)
      have hle := Out.digs_len S1 (dl.take j)
      have hle2 : (dl.take j).length ≤ j := by simp; omega
      have hdj := HDK.out dl[j] (List.getElem_mem hl2)
      generalize dl[j] = y at *
      unfold Out.digs at hle
      generalize (dl.take j).foldl Out.dig S1 = S7 at *
      go_wp2_with fail
      refine (digest_any _ _ g _ hW (by omega) (by omega) (by omega)).mono ?_
      rintro e w9 ⟨rfl, hW9, hC9⟩
      have hD9 := hC9.blk hDg (by omega) (by decide)
      have hB9 := hC9.blk hBx (by omega) (by decide)
      go_wp2_with fail
      go_roundw
      case rel => exact ⟨j + 1, by go_num, by omega, by rw [HS.out]; exact hW9, hD9, hB9, hT.trans hC9⟩
      case measure => simp [intOf]; omega
    · have hji : ¬ (j : Int) < 6 := by omega
      rw [List.take_of_length_le (by omega)] at hW
      have hle := Out.digs_len S1 dl
      have hEd : Hid (S1.digs dl = dl.foldl Out.dig S1) := rfl
      rw [hEd.out] at hle
      have k8 := (hBx.cell 8).trans (show _ = some (.int .i64 x9) from rfl)
      go_wp2_with fail
      refine (number_any _ _ g _ hW (by omega)).mono ?_
      rintro e w9 ⟨rfl, hW9, hC9⟩
      go_wp2_with fail
      go_end0
      exact ⟨rfl, hW9.eq (by rw [hE.out, hEd.out]), hT.trans hC9⟩
set_option maxRecDepth 100000 in
set_option maxHeartbeats 1000000 in
theorem wproof_any (x : ProofD) (B : Nat) (w : World) (g : Nat) (S : Out) (h : Wrt w g S) (hl : S.b.length + 40 * proofM x ≤ 59000000000000) (hx : x.held w B) (hB : B ≤ g) :
    Calls Try.prog 161 #[.pointer (some ⟨g, 0, none⟩), x.val] w fun e w' => e = .returned (.tuple #[]) ∧ Wrt w' g (S.proof x) ∧ Turned w w' g := by
  have hgt := h.lt
  have hE : Hid (S.proof x = (((((S.list x.turns 288 Out.turn).flag x.leaf).text x.key 32).text x.value 4096).need (allTo (turnOkAt x.turns) x.turns.length)).need (proofOk x)) := rfl
  have hK : Hid (proofOk x = ((x.leaf && !emp x.value) || (!x.leaf && decide (x.turns.length = 0) && emp x.key && emp x.value))) := rfl
  obtain ⟨ts, tA, tc, x2, x3, x4⟩ := x
  simp only [proofM, turns_M] at hl
  dsimp only [ProofD.val]
  obtain ⟨hxr, hxs, hxd⟩ := hx
  dsimp only at hxr hxs hxd
  have hsw := turns_W ts
  go_enter Try.func161, Try.ntmps161
  go_wp2_with fail
  refine (putsTurn_any ts tA tc B 288 _ g _ (h.alloc _) (((Turned.refl w g).alloc (by omega) _).rd hxr hB) hB hxd (by omega) hxs).mono ?_
  rintro e w1 ⟨rfl, hW1, hC1⟩
  have hB1 := hC1.blk (Blk.new _ _ _) (by omega) (by decide)
  have hT1 := ((Turned.refl w g).alloc (by omega) _).trans hC1
  have hlt1 := hB1.lt
  have hgl1 := hW1.lt
  have ll1 := list_len Out.turn turnW Out.turn_lenW ts 288 S
  generalize S.list ts 288 Out.turn = S1 at *
  have c1_0 := (hB1.cell 0).trans (show _ = some (.slice tA ts.length tc) from rfl)
  have c1_1 := (hB1.cell 1).trans (show _ = some (.bool x2) from rfl)
  have c1_2 := (hB1.cell 2).trans (show _ = some (.string (bs x3)) from rfl)
  have c1_3 := (hB1.cell 3).trans (show _ = some (.string (bs x4)) from rfl)
  go_wp2_with fail
  refine (flag_any _ _ g _ hW1 (by omega)).mono ?_
  rintro e w2 ⟨rfl, hW2, hC2⟩
  have hB2 := hC2.blk hB1 (by omega) (by decide)
  have hT2 := hT1.trans hC2
  have hlt2 := hB2.lt
  have hgl2 := hW2.lt
  have ll2 := (by simp [Out.flag] : (S1.flag x2).b.length ≤ S1.b.length + 1)
  generalize S1.flag x2 = S2 at *
  have c2_0 := (hB2.cell 0).trans (show _ = some (.slice tA ts.length tc) from rfl)
  have c2_1 := (hB2.cell 1).trans (show _ = some (.bool x2) from rfl)
  have c2_2 := (hB2.cell 2).trans (show _ = some (.string (bs x3)) from rfl)
  have c2_3 := (hB2.cell 3).trans (show _ = some (.string (bs x4)) from rfl)
  go_wp2_with fail
  refine (text_anyW x3 32 _ g _ hW2 (by omega)).mono ?_
  rintro e w3 ⟨rfl, hW3, hC3⟩
  have hB3 := hC3.blk hB2 (by omega) (by decide)
  have hT3 := hT2.trans hC3
  have hlt3 := hB3.lt
  have hgl3 := hW3.lt
  have ll3 := S2.text_len x3 32
  generalize S2.text x3 32 = S3 at *
  have c3_0 := (hB3.cell 0).trans (show _ = some (.slice tA ts.length tc) from rfl)
  have c3_1 := (hB3.cell 1).trans (show _ = some (.bool x2) from rfl)
  have c3_2 := (hB3.cell 2).trans (show _ = some (.string (bs x3)) from rfl)
  have c3_3 := (hB3.cell 3).trans (show _ = some (.string (bs x4)) from rfl)
  go_wp2_with fail
  refine (text_anyW x4 4096 _ g _ hW3 (by omega)).mono ?_
  rintro e w4 ⟨rfl, hW4, hC4⟩
  have hB4 := hC4.blk hB3 (by omega) (by decide)
  have hT4 := hT3.trans hC4
  have hlt4 := hB4.lt
  have hgl4 := hW4.lt
  have ll4 := S3.text_len x4 4096
  generalize S3.text x4 4096 = S4 at *
  have c4_0 := (hB4.cell 0).trans (show _ = some (.slice tA ts.length tc) from rfl)
  have c4_1 := (hB4.cell 1).trans (show _ = some (.bool x2) from rfl)
  have c4_2 := (hB4.cell 2).trans (show _ = some (.string (bs x3)) from rfl)
  have c4_3 := (hB4.cell 3).trans (show _ = some (.string (bs x4)) from rfl)
  have hKf : Hid (∀ j (h : j < ts.length), turnOkAt ts j = decide (prevT ts j < ts[j].p)) := by
    intro j h
    simp [turnOkAt, List.getElem?_eq_getElem h]
  have hKp : Hid (∀ j (h : j < ts.length), prevT ts (j + 1) = ts[j].p) := by
    intro j h
    simp [prevT, List.getElem?_eq_getElem h]
  go_wp2_with fail
  go_loopw [4, 6, 26] (fun p _ i wr => ∃ j : Nat, i = .int .i64 (j : Int) ∧ j ≤ ts.length ∧ p = .int .i64 (prevT ts j) ∧ Wrt wr g (S4.need (allTo (turnOkAt ts) j)) ∧ Blk wr w.heap.size 70 #[.slice tA ts.length tc, .bool x2, .string (bs x3), .string (bs x4)] ∧ Turned w wr g) (fun _ _ i _ => ts.length - (intOf i).toNat)
  case atStart => exact ⟨0, rfl, by omega, rfl, by rw [show allTo (turnOkAt ts) 0 = true from rfl, Out.need_true]; exact hW4, hB4, hT4⟩
  case round =>
    obtain ⟨j, rfl, hj, rfl, hW, hBx, hT⟩ := hrel
    have hgw := hW.lt
    by_cases hlt : j < ts.length
    · have hji : (j : Int) < (ts.length : Int) := by omega
      obtain ⟨b, off, rfl, hbB, hc⟩ := TurnsL.at_ (hT.rd hxr hB) hlt
      have hs := Lib.hid (hKf.out j hlt)
      have hs2 : Hid (allTo (turnOkAt ts) (j + 1) = (allTo (turnOkAt ts) j && turnOkAt ts j)) := rfl
      have hs3 := Lib.hid (hKp.out j hlt)
      have d0 : wr.cell? ⟨b, off + j * 2, none⟩ = some (.int .i64 ts[j].p) := hc 0 _ rfl
      have d1 : wr.cell? ⟨b, off + j * 2 + 1, none⟩ = some (.int .u64 ts[j].d) := hc 1 _ rfl
      generalize ts[j] = y at *
      clear hc
      generalize prevT ts j = pv at *
      go_wp2_with fail
      refine (need_any _ _ g _ (hW.alloc _)).mono ?_
      rintro e w9 ⟨rfl, hW9, hT9⟩
      have hB9 := hT9.blk (Blk.new _ _ _) (by omega) (by decide)
      have hBx9 := hT9.blk (hBx.alloc _) (by omega) (by decide)
      have d2 := (hB9.cell 0).trans (show _ = some (.int .i64 y.p) from rfl)
      go_wp2_with fail
      go_roundw
      case rel => exact ⟨j + 1, by go_num, by omega, by rw [hs3.out], hW9.eq (by rw [Out.need_need, hs2.out, hs.out]), hBx9, (hT.alloc (Nat.le_of_lt hgw) _).trans hT9⟩
      case measure => simp [intOf]; omega
    · have hji : ¬ (j : Int) < (ts.length : Int) := by omega
      have hjl : Hid (j = ts.length) := show j = ts.length by omega
      have k0 := (hBx.cell 0).trans (show _ = some (.slice tA ts.length tc) from rfl)
      have k1 := (hBx.cell 1).trans (show _ = some (.bool x2) from rfl)
      have k2 := (hBx.cell 2).trans (show _ = some (.string (bs x3)) from rfl)
      have k3 := (hBx.cell 3).trans (show _ = some (.string (bs x4)) from rfl)
      go_wp2_with fail
      all_goals
        refine (need_any _ _ g _ hW).mono ?_
        rintro e w9 ⟨rfl, hW9, hT9⟩
        go_wp2_with fail
        go_end0
        exact ⟨rfl, hW9.eq (by rw [hE.out, hK.out, ← hjl.out]; congr 1; first | grind [emp] | (cases x2 <;> cases x3 <;> cases x4 <;> simp_all [emp])), hT.trans hT9⟩
set_option maxRecDepth 100000 in
set_option maxHeartbeats 1000000 in
theorem wsight_any (x : SightD) (B : Nat) (w : World) (g : Nat) (S : Out) (h : Wrt w g S) (hl : S.b.length + 40 * sightM x ≤ 58999999990000) (hx : x.held w B) (hB : B ≤ g) :
    Calls Try.prog 182 #[.pointer (some ⟨g, 0, none⟩), x.val] w fun e w' => e = .returned (.tuple #[]) ∧ Wrt w' g (S.sight x) ∧ Turned w w' g := by
  have hgt := h.lt
  have hE : Hid (S.sight x = ((S.header x.header).cert x.cert).bench x.seats) := rfl
  obtain ⟨⟨h1, h2, h3, h4, h5, h6, h7, h8, h9⟩, ⟨c1, c2, c3, c4, c5, c6, c6a, c6c⟩, ss, sA, sc⟩ := x
  simp only [sightM, headerM] at hl
  dsimp only [SightD.val]
  obtain ⟨hxh, hxc, hxr, hxs⟩ := hx
  dsimp only at hxh hxc hxr hxs
  go_enter Try.func182, Try.ntmps182
  go_wp2_with fail
  refine (wheader_any ⟨h1, h2, h3, h4, h5, h6, h7, h8, h9⟩ hxh _ g _ (h.alloc _) (by omega)).mono ?_
  rintro e w1 ⟨rfl, hW1, hC1⟩
  have hB1 := hC1.blk (Blk.new _ _ _) (by omega) (by decide)
  have hT1 := ((Turned.refl w g).alloc (by omega) _).trans hC1
  have hlt1 := hB1.lt
  have hgl1 := hW1.lt
  have ll1 := S.header_len ⟨h1, h2, h3, h4, h5, h6, h7, h8, h9⟩
  generalize S.header ⟨h1, h2, h3, h4, h5, h6, h7, h8, h9⟩ = S1 at *
  have c1_0 := (hB1.cell 0).trans (show _ = some (.int .i64 h1) from rfl)
  have c1_1 := (hB1.cell 1).trans (show _ = some (.int .i64 h2) from rfl)
  have c1_2 := (hB1.cell 2).trans (show _ = some (.int .u64 h3) from rfl)
  have c1_3 := (hB1.cell 3).trans (show _ = some (.int .u64 h4) from rfl)
  have c1_4 := (hB1.cell 4).trans (show _ = some (.int .u64 h5) from rfl)
  have c1_5 := (hB1.cell 5).trans (show _ = some (.int .u64 h6) from rfl)
  have c1_6 := (hB1.cell 6).trans (show _ = some (.int .u64 h7) from rfl)
  have c1_7 := (hB1.cell 7).trans (show _ = some (.int .u64 h8) from rfl)
  have c1_8 := (hB1.cell 8).trans (show _ = some (.int .i64 h9) from rfl)
  have c1_9 := (hB1.cell 9).trans (show _ = some (.int .i64 c1) from rfl)
  have c1_10 := (hB1.cell 10).trans (show _ = some (.int .i64 c2) from rfl)
  have c1_11 := (hB1.cell 11).trans (show _ = some (.int .i64 c3) from rfl)
  have c1_12 := (hB1.cell 12).trans (show _ = some (.bool c4) from rfl)
  have c1_13 := (hB1.cell 13).trans (show _ = some (.int .u64 c5) from rfl)
  have c1_14 := (hB1.cell 14).trans (show _ = some (.slice c6a c6.length c6c) from rfl)
  have c1_15 := (hB1.cell 15).trans (show _ = some (.slice sA ss.length sc) from rfl)
  go_wp2_with fail
  refine (wcert_any ⟨c1, c2, c3, c4, c5, c6, c6a, c6c⟩ B _ g _ hW1 (by omega) (hxc.below (hT1.low.mono hB)) hB).mono ?_
  rintro e w2 ⟨rfl, hW2, hC2⟩
  have hB2 := hC2.blk hB1 (by omega) (by decide)
  have hT2 := hT1.trans hC2
  have hlt2 := hB2.lt
  have hgl2 := hW2.lt
  have ll2 := S1.cert_len ⟨c1, c2, c3, c4, c5, c6, c6a, c6c⟩
  generalize S1.cert ⟨c1, c2, c3, c4, c5, c6, c6a, c6c⟩ = S2 at *
  have c2_0 := (hB2.cell 0).trans (show _ = some (.int .i64 h1) from rfl)
  have c2_1 := (hB2.cell 1).trans (show _ = some (.int .i64 h2) from rfl)
  have c2_2 := (hB2.cell 2).trans (show _ = some (.int .u64 h3) from rfl)
  have c2_3 := (hB2.cell 3).trans (show _ = some (.int .u64 h4) from rfl)
  have c2_4 := (hB2.cell 4).trans (show _ = some (.int .u64 h5) from rfl)
  have c2_5 := (hB2.cell 5).trans (show _ = some (.int .u64 h6) from rfl)
  have c2_6 := (hB2.cell 6).trans (show _ = some (.int .u64 h7) from rfl)
  have c2_7 := (hB2.cell 7).trans (show _ = some (.int .u64 h8) from rfl)
  have c2_8 := (hB2.cell 8).trans (show _ = some (.int .i64 h9) from rfl)
  have c2_9 := (hB2.cell 9).trans (show _ = some (.int .i64 c1) from rfl)
  have c2_10 := (hB2.cell 10).trans (show _ = some (.int .i64 c2) from rfl)
  have c2_11 := (hB2.cell 11).trans (show _ = some (.int .i64 c3) from rfl)
  have c2_12 := (hB2.cell 12).trans (show _ = some (.bool c4) from rfl)
  have c2_13 := (hB2.cell 13).trans (show _ = some (.int .u64 c5) from rfl)
  have c2_14 := (hB2.cell 14).trans (show _ = some (.slice c6a c6.length c6c) from rfl)
  have c2_15 := (hB2.cell 15).trans (show _ = some (.slice sA ss.length sc) from rfl)
  go_wp2_with fail
  refine (wbench_any ss sA sc B _ g _ hW2 (hT2.rd hxr hB) hB (by omega) hxs).mono ?_
  rintro e w3 ⟨rfl, hW3, hC3⟩
  have hB3 := hC3.blk hB2 (by omega) (by decide)
  have hT3 := hT2.trans hC3
  have hlt3 := hB3.lt
  have hgl3 := hW3.lt
  generalize S2.bench ss = S3 at *
  go_wp2_with fail
  go_end0
  exact ⟨rfl, Wrt.eq hW3 (by rw [hE.out] <;> rfl), hT3⟩
end Go.Proofs.Ytjjkdmngmopjbaa
