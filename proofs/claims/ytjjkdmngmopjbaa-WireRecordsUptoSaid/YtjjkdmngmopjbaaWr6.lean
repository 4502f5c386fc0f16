/- The program's writer: lists of seats and of notes. -/
import Derived.Test.YtjjkdmngmopjbaaProg
import Derived.Test.YtjjkdmngmopjbaaWr3
import Derived.Test.YtjjkdmngmopjbaaLay
namespace Go.Proofs.Ytjjkdmngmopjbaa
open Go.RowKit
set_option maxRecDepth 100000 in
set_option maxHeartbeats 400000 in
theorem wseat1_any (x : Seat) (w : World) (g : Nat) (S : Out) (h : Wrt w g S) (hl : S.b.length + 200 ≤ 70368744177000) :
    Calls Try.prog 173 #[.pointer (some ⟨g, 0, none⟩), x.val] w fun e w' => e = .returned (.tuple #[]) ∧ Wrt w' g (S.seat x) ∧ Turned w w' g := by
  have hgt := h.lt
  have hE : Hid (S.seat x = S.nums [x.who, x.weight]) := rfl
  obtain ⟨x1, x2⟩ := x
  dsimp only [Seat.val]
  go_enter Try.func173, Try.ntmps173
  go_wp2_with fail
  have ll1 := S.nums_len [x1, x2]
  simp only [List.length_cons, List.length_nil] at ll1
  refine (numbers_any [x1, x2] 2 _ g (w.heap.size + 1) S ((h.alloc _).alloc _) (by have hN := Blk.new (w.alloc (.cells #[.int .i64 x1, .int .i64 x2] 147)) 3 #[.int .i64 x1, .int .i64 x2]; simpa using hN) (by omega) (by simp; omega)).mono ?_
  rintro e w1 ⟨rfl, hW1, hC1⟩
  have hB1 := hC1.blk ((Blk.new _ _ _).alloc _) (by omega) (by decide)
  have hT1 := (((Turned.refl w g).alloc (by omega) _).alloc (by simp; omega) _).trans hC1
  have hlt1 := hB1.lt
  have hgl1 := hW1.lt
  generalize S.nums [x1, x2] = S1 at *
  go_wp2_with fail
  go_end0
  exact ⟨rfl, Wrt.eq hW1 (by rw [hE.out] <;> grind), hT1⟩
set_option maxRecDepth 100000 in
set_option maxHeartbeats 400000 in
theorem putsSeat_any (l : List Seat) (A : Option Addr) (c B : Nat) (m : Int) (w : World) (g : Nat) (S : Out) (h : Wrt w g S) (hr : SeatsL w B A l) (hB : B ≤ g) (hl : S.b.length + 6 + sumL seatW l ≤ 70368744176000) (hm : l.length ≤ maxLen) :
    Calls Try.prog 172 #[.pointer (some ⟨g, 0, none⟩), .slice A l.length c, .int .i64 m, .func (.func 173) #[] #[]] w fun e w' => e = .returned (.tuple #[]) ∧ Wrt w' g (S.list l m Out.seat) ∧ Turned w w' g := by
  unfold maxLen at hm
  have hgt := h.lt
  have hn := ((S.lim l.length m).num_len l.length)
  have hb0 : (S.lim l.length m).b.length = S.b.length := rfl
  have hE : Hid (S.list l m Out.seat = l.foldl Out.seat ((S.lim l.length m).num l.length)) := rfl
  go_enter Try.func172, Try.ntmps172
  go_wp2_with fail
  refine (limited_any _ _ _ g _ h).mono ?_
  rintro e w1 ⟨rfl, hW1, hT1⟩
  go_wp2_with fail
  refine (number_any _ _ g _ hW1 (by omega)).mono ?_
  rintro e w2 ⟨rfl, hW2, hT2⟩
  have hT02 := hT1.trans hT2
  clear hT1 hT2 hW1
  generalize (S.lim l.length m).num l.length = S2 at *
  go_wp2_with fail
  go_loopw [9, 21] (fun _ i wr => ∃ j : Nat, i = .int .i64 (j : Int) ∧ j ≤ l.length ∧ Wrt wr g ((l.take j).foldl Out.seat S2) ∧ Turned w wr g) (fun _ i _ => l.length - (intOf i).toNat)
  case atStart => exact ⟨0, rfl, by omega, by simpa using hW2, hT02⟩
  case round =>
    obtain ⟨j, rfl, hj, hW, hT⟩ := hrel
    have hgw := hW.lt
    by_cases hlt : j < l.length
    · have hji : (j : Int) < (l.length : Int) := by omega
      obtain ⟨b, off, rfl, hbB, hc⟩ := SeatsL.at_ (hT.rd hr hB) hlt
      have HS := Lib.hid (fold_take Out.seat S2 l j hlt)
      have hle := fold_len Out.seat seatW Out.seat_len (l.take j) S2
      have hle2 := sumL_take seatW l j hlt
      generalize hx : l[j] = x at *
      clear hx
      have c0 : wr.cell? ⟨b, off + j * 2, none⟩ = some (.int .i64 x.who) := hc 0 _ rfl
      have c1 : wr.cell? ⟨b, off + j * 2 + 1, none⟩ = some (.int .i64 x.weight) := hc 1 _ rfl
      clear hc
      go_wp2_with fail
      refine (wseat1_any x _ g _ (hW.alloc _) (by unfold seatW at *; omega)).mono ?_
      rintro e w3 ⟨rfl, hW3, hT3⟩
      go_wp2_with fail
      go_roundw
      case rel => exact ⟨j + 1, by go_num, by omega, by rw [HS.out]; exact hW3, (hT.alloc (Nat.le_of_lt hgw) _).trans hT3⟩
      case measure => simp [intOf]; omega
    · have hji : ¬ (j : Int) < (l.length : Int) := by omega
      go_wp2
      go_end0
      rw [List.take_of_length_le (by omega)] at hW
      exact ⟨rfl, by rw [hE.out]; exact hW, hT⟩
end Go.Proofs.Ytjjkdmngmopjbaa
