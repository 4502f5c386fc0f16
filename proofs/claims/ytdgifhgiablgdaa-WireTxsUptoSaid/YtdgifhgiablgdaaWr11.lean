/- The reference's writer: a result. -/
import Derived.Test.YtdgifhgiablgdaaProg
import Derived.Test.YtdgifhgiablgdaaWr9
namespace Go.Proofs.Ytdgifhgiablgdaa
open Go.RowKit
set_option maxRecDepth 100000 in
set_option maxHeartbeats 400000 in
theorem rresult_any (x : ResultD) (w : World) (g : Nat) (S : Out) (h : Ref w g S) (hl : S.b.length + 3000 + 12 * x.notes.length ≤ 70368744177000) (B : Nat) (hr : NotesL w B x.na x.notes) (hB : B ≤ g) (hm : x.notes.length ≤ maxLen) :
    Calls Try.prog 124 #[.pointer (some ⟨g, 0, none⟩), x.val] w fun e w' => e = .returned (.tuple #[]) ∧ Ref w' g (S.result x) ∧ Turned w w' g := by
  have hgt := h.lt
  obtain ⟨x1, x2, x3, l, A, c⟩ := x
  dsimp only at hr hm hl
  have hE : Hid (S.result ⟨x1, x2, x3, l, A, c⟩ = l.foldl Out.note (((((S.num x1).num x2).num x3).lim l.length 64).num l.length)) := rfl
  dsimp only [ResultD.val]
  unfold maxLen at hm
  have l1 := S.num_len x1
  have l2 := (S.num x1).num_len x2
  have l3 := ((S.num x1).num x2).num_len x3
  go_enter Try.func124, Try.ntmps124
  go_wp2_with fail
  refine (rnumber_any _ _ g _ (h.alloc _) (by omega)).mono ?_
  rintro e w1 ⟨rfl, hW1, hC1⟩
  have hB1 := hC1.blk (Blk.new _ _ _) (by omega) (by decide)
  have hT1 := ((Turned.refl w g).alloc (by omega) _).trans hC1
  have c1_1 := (hB1.cell 1).trans (show _ = some (.int .i64 x2) from rfl)
  have c1_2 := (hB1.cell 2).trans (show _ = some (.int .i64 x3) from rfl)
  have c1_3 := (hB1.cell 3).trans (show _ = some (.slice A l.length c) from rfl)
  go_wp2_with fail
  refine (rnumber_any _ _ g _ hW1 (by omega)).mono ?_
  rintro e w2 ⟨rfl, hW2, hC2⟩
  have hB2 := hC2.blk hB1 (by omega) (by decide)
  have hT2 := hT1.trans hC2
  have c2_2 := (hB2.cell 2).trans (show _ = some (.int .i64 x3) from rfl)
  have c2_3 := (hB2.cell 3).trans (show _ = some (.slice A l.length c) from rfl)
  go_wp2_with fail
  refine (rnumber_any _ _ g _ hW2 (by omega)).mono ?_
  rintro e w3 ⟨rfl, hW3, hC3⟩
  have hB3 := hC3.blk hB2 (by omega) (by decide)
  have hT3 := hT2.trans hC3
  have c3_3 := (hB3.cell 3).trans (show _ = some (.slice A l.length c) from rfl)
  generalize ((S.num x1).num x2).num x3 = S3 at *
  have hn := (S3.lim l.length 64).num_len l.length
  have hb0 : (S3.lim l.length 64).b.length = S3.b.length := rfl
  go_wp2_with fail
  refine (rcount_any _ _ _ g _ hW3 (by omega)).mono ?_
  rintro e w4 ⟨rfl, hW4, hC4⟩
  have hB4 := hC4.blk hB3 (by omega) (by decide)
  have hT4 := hT3.trans hC4
  have hbx := hB4.lt
  generalize (S3.lim l.length 64).num l.length = S4 at *
  have hsw : sumL noteW l = 12 * l.length := sumL_const 12 l
  generalize hbn : w.heap.size = bx at *
  have HB := Lib.hid hbn
  clear hbn
  go_wp2_with fail
  go_loopw [4] (fun i wr => ∃ j : Nat, i = .int .i64 (j : Int) ∧ j ≤ l.length ∧ Ref wr g ((l.take j).foldl Out.note S4) ∧ Blk wr bx 76 #[.int .i64 x1, .int .i64 x2, .int .i64 x3, .slice A l.length c] ∧ Turned w wr g) (fun i _ => l.length - (intOf i).toNat)
  case atStart => exact ⟨0, rfl, by omega, by simpa using hW4, hB4, hT4⟩
  case round =>
    obtain ⟨j, rfl, hj, hW, hBx, hT⟩ := hrel
    have k3 := (hBx.cell 3).trans (show _ = some (.slice A l.length c) from rfl)
    by_cases hlt : j < l.length
    · have hji : (j : Int) < (l.length : Int) := by omega
      obtain ⟨b, off, rfl, hbB, hc⟩ := NotesL.at_ (hT.rd hr hB) hlt
      have HS := Lib.hid (fold_take Out.note S4 l j hlt)
      have hle := fold_len Out.note noteW Out.note_len (l.take j) S4
      have hle2 := sumL_take noteW l j hlt
      have c0 : wr.cell? ⟨b, off + j * 2, none⟩ = some (.int .i64 l[j].who) := hc 0 _ rfl
      have c1 : wr.cell? ⟨b, off + j * 2 + 1, none⟩ = some (.int .i64 l[j].n) := hc 1 _ rfl
      have hfr : ∀ S1 x, Out.note S1 x = (S1.num x.who).num x.n := fun _ _ => rfl
      rw [hfr] at HS
      clear hfr hc
      generalize l[j] = y at *
      generalize (l.take j).foldl Out.note S4 = S5 at *
      have l5 := S5.num_len y.who
      go_wp2_with fail
      refine (rnumber_any _ _ g _ hW (by omega)).mono ?_
      rintro e w5 ⟨rfl, hW5, hC5⟩
      have hB5 := hC5.blk hBx (by omega) (by decide)
      have k5 := (hB5.cell 3).trans (show _ = some (.slice (some ⟨b, off, none⟩) l.length c) from rfl)
      have d5 : w5.cell? ⟨b, off + j * 2 + 1, none⟩ = some (.int .i64 y.n) := (hC5.low.cell (by simp; omega)).trans c1
      go_wp2_with fail
      refine (rnumber_any _ _ g _ hW5 (by omega)).mono ?_
      rintro e w6 ⟨rfl, hW6, hC6⟩
      have hB6 := hC6.blk hB5 (by omega) (by decide)
      go_wp2_with fail
      go_roundw
      case rel => exact ⟨j + 1, by go_num, by omega, by rw [HS.out]; exact hW6, hB6, hT.trans (hC5.trans hC6)⟩
      case measure => simp [intOf]; omega
    · have hji : ¬ (j : Int) < (l.length : Int) := by omega
      go_wp2_with fail
      go_end0
      rw [List.take_of_length_le (by omega)] at hW
      exact ⟨rfl, by rw [hE.out]; exact hW, hT⟩
end Go.Proofs.Ytdgifhgiablgdaa
