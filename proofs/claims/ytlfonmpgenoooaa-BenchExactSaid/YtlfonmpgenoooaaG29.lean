/- Of the texts Wr4, Wr5, Wr3, Wr6. -/
import Derived.Test.YtlfonmpgenoooaaProg
import Derived.Test.YtlfonmpgenoooaaG28
import Derived.Test.YtlfonmpgenoooaaG26
import Derived.BigGuardPart
set_option linter.unusedSimpArgs false
set_option linter.unusedVariables false
namespace Go.Proofs.Ytlfonmpgenoooaa
open Go.RowKit
set_option maxRecDepth 100000 in
theorem rneed_any (b : Bool) (w : World) (g : Nat) (S : Out) (h : Ref w g S) :
  Calls Try.prog 72 #[.pointer (some ⟨g, 0, none⟩), .bool b] w fun e w' => e = .returned (.tuple #[]) ∧ Ref w' g (S.need (!b)) ∧ Turned w w' g := by
 obtain ⟨l, o, hb, hln, ho⟩ := h; have c1 := hb.c 2 rfl; have f1 := hb.frozen 2; have hgt := hb.lt; cases b
 ·go_enter Try.func72, Try.ntmps72; go_wp2
  go_end0
  exact ⟨rfl, ⟨l, o, by simpa [Out.need] using hb, hln, fun hf => by simpa [Out.need] using ho hf⟩, Turned.refl _ _⟩
 ·go_enter Try.func72, Try.ntmps72; go_wp2
  go_end0
  exact ⟨rfl, ⟨l, true, by simpa [Out.need] using hb.set_ 2 (.bool true), hln, fun hf => by simpa [Out.need] using (ho hf).1⟩, (Turned.refl _ _).setCell _ _⟩
set_option maxRecDepth 100000 in
theorem rnumber_any (n : Int) (w : World) (g : Nat) (S : Out) (h : Ref w g S) (hl : S.b.length ≤ 70368744177000) :
  Calls Try.prog 71 #[.pointer (some ⟨g, 0, none⟩), .int .i64 n] w fun e w' => e = .returned (.tuple #[]) ∧ Ref w' g (S.num n) ∧ Turned w w' g := by
 obtain ⟨l, o, hb, hln, ho⟩ := h; have hgt := hb.lt; have hc := @conv1 Try.prog 96 9 5 Try.underlying96 Try.underlying5 Try.underlying9
 by_cases hbad : n < 0 ∨ 1099511627775 < n
 ·have hS : Ref (w.setCell ⟨g, 1, none⟩ (.bool true)) g (S.num n) := by
   refine ⟨l, o, ?_, by simp [Out.num]; omega, fun hf => ?_⟩
   ·have := hb.set_ 1 (.bool true); simpa [Out.num, farN, hbad] using this
   ·simp [Out.num, farN, hbad] at hf
  have HS := Lib.hid hS; have c1 := hb.c 1 rfl; have f1 := hb.frozen 1; clear ho hS
  by_cases h0 : n < 0
  ·go_enter Try.func71, Try.ntmps71; go_wp2_with fail; exact bodyPost_ret (v := .tuple #[]) (by simp [results, Try.results71, go_sem]) rfl ⟨rfl, HS.out, (Turned.refl _ _).setCell _ _⟩
  ·have h1 : 1099511627775 < n := by omega
   clear hbad; go_enter Try.func71, Try.ntmps71; go_wp2_with fail; exact bodyPost_ret (v := .tuple #[]) (by simp [results, Try.results71, go_sem]) rfl ⟨rfl, HS.out, (Turned.refl _ _).setCell _ _⟩
 ·have h0 : ¬ n < 0 := by omega
  have h1 : ¬ 1099511627775 < n := by omega
  have HE : Hid (S.num n = ⟨S.b ++ numB n, S.far, S.odd⟩) := by show S.num n = _; simp [Out.num, numV, farN, h0, h1]
  clear hbad; go_enter Try.func71, Try.ntmps71; go_wp2_with fail
  go_loopw [1, 4] (fun x y wr => ∃ (k f : Nat) (m : Int), x = .int .i64 m ∧ y = .string (bs (be n k)) ∧ 0 ≤ m ∧ m ≤ n ∧ m < 256 ^ f ∧ k + f = 5 ∧ k + blenF f m = blenF 5 n ∧ m = n / 256 ^ k ∧ Blk wr g 79 #[.string (bs l), .bool S.far, .bool o] ∧ Turned w wr g) (fun x _ _ => (intOf x).toNat)
  case atStart => exact ⟨0, 5, n, rfl, rfl, by omega, by omega, by simp; omega, rfl, by simp, by simp, hb, Turned.refl _ _⟩
  case round =>
   obtain ⟨k, f, m, rfl, rfl, h2, hmn, h3, h4, h5, h6, hbr, hTr⟩ := hrel; have hbk := be_len n k; have H3 := Lib.hid h3; have H5 := Lib.hid h5; have H6 := Lib.hid h6; clear h3 h5 h6; have hgr := hbr.lt
   by_cases hm : 0 < m
   ·obtain ⟨n1, n2, n3⟩ := blen_next f m hm H3.out; have N2 := Lib.hid n2; have N3 := Lib.hid n3; clear n2 n3; go_wp2_with fail
    go_roundw
    case rel =>
     refine ⟨k + 1, f - 1, m / 256, rfl, ?_, by omega, by omega, N3.out, by omega, (by have := H5.out; rw [N2.out] at this; omega), by rw [H6.out, div_step], hbr.alloc _, hTr.alloc (Nat.le_of_lt hgr) _⟩; rw [H6.out]; simp [be]
    case measure => simp [intOf]; omega
   ·have hk : k = blenF 5 n := by have := H5.out; rw [blen_stop f m hm] at this; simpa using this
    have hk5 := blenF_le 5 n; have HK := Lib.hid hk; clear hk; rw [← HK.out] at hk5; have hlen := be_len n k; have c0 : wr.drew.cell? ⟨g, 0, none⟩ = some (Value.string (bs l)) := hbr.c 0 rfl; have f0 : wr.drew.frozen? ⟨g, 0, none⟩ = false := hbr.frozen 0; have hwk : IntKind.u8.wrap (k : Int) = (k : Int) := by simp [IntKind.wrap_u8]; omega
    have hcD : Sem.run Try.prog (convert 96 9 (.slice (some ⟨wr.heap.size, 0, none⟩) 1 1)) (wr.alloc (.cells #[.int .u8 (k : Int)] 5)).drew = .ok (.string (bs [UInt8.ofNat k])) (wr.alloc (.cells #[.int .u8 (k : Int)] 5)).drew := hc (k : Int) wr.drew; have cA : (wr.alloc (.cells #[.int .u8 (k : Int)] 5)).drew.cell? ⟨g, 0, none⟩ = some (Value.string (bs l)) := ((hbr.alloc _).cell 0).trans (show _ = some (Value.string (bs l)) from rfl); have fA : (wr.alloc (.cells #[.int .u8 (k : Int)] 5)).drew.frozen? ⟨g, 0, none⟩ = false := (hbr.alloc _).frozen 0; clear hc; have q1 : ¬ 9223372036854775807 < l.length + 1 := by omega
    have q2 : ¬ 9223372036854775807 < l.length + 1 + k := by omega
    go_wp2_with fail
    go_region_law (fail)
    all_goals
     go_wp2_with fail
     go_end0
     refine ⟨rfl, ⟨l ++ UInt8.ofNat k :: be n k, o, by rw [HE.out]; exact ((hbr.set_ 0 _).alloc _).drew, by rw [HE.out]; simp [numB, ← HK.out, be_len]; omega, fun hf => ?_⟩, ((hTr.setCell _ _).alloc (by simp [World.setCell]; omega) _).drew⟩; rw [HE.out] at hf ⊢
     have := ho hf; simp [numB, ← HK.out, this.1, this.2]
set_option maxRecDepth 100000 in
theorem rcount_any (n m : Int) (w : World) (g : Nat) (S : Out) (h : Ref w g S) (hl : S.b.length ≤ 70368744177000) :
  Calls Try.prog 70 #[.pointer (some ⟨g, 0, none⟩), .int .i64 n, .int .i64 m] w fun e w' => e = .returned (.tuple #[]) ∧ Ref w' g ((S.lim n m).num n) ∧ Turned w w' g := by
 have hgt := h.lt
 by_cases hm : m < n
 ·have hS : Ref (w.setCell ⟨g, 1, none⟩ (.bool true)) g (S.lim n m) := by
   obtain ⟨l, o, hb, hln, ho⟩ := h; refine ⟨l, o, by simpa [Out.lim, hm] using hb.set_ 1 (.bool true), hln, fun hf => ?_⟩; simp [Out.lim, hm] at hf
  have c1 : ∃ x, w.cell? ⟨g, 1, none⟩ = some x := by
   obtain ⟨l, o, hb, hln, ho⟩ := h; exact ⟨_, hb.c 1 rfl⟩
  obtain ⟨x, c1⟩ := c1; have f1 : w.frozen? ⟨g, 1, none⟩ = false := by
   obtain ⟨l, o, hb, hln, ho⟩ := h; exact hb.frozen 1
  have HS := Lib.hid hS; clear h hS; go_enter Try.func70, Try.ntmps70; go_wp2_with fail; refine (rnumber_any _ _ g _ HS.out hl).mono ?_; rintro e w1 ⟨rfl, hW1, hC1⟩; go_wp2_with fail
  go_end0
  exact ⟨rfl, hW1, ((Turned.refl _ _).setCell _ _).trans hC1⟩
 ·have hd : S.lim n m = S := by simp [Out.lim, hm]
  have HD := Lib.hid hd; clear hd; go_enter Try.func70, Try.ntmps70; go_wp2_with fail; refine (rnumber_any _ _ g _ h hl).mono ?_; rintro e w1 ⟨rfl, hW1, hC1⟩; go_wp2_with fail
  go_end0
  exact ⟨rfl, by rw [HD.out]; exact hW1, hC1⟩
set_option maxRecDepth 100000 in
set_option maxHeartbeats 400000 in
theorem wseat1_any (x : Seat) (w : World) (g : Nat) (S : Out) (h : Wrt w g S) (hl : S.b.length + 200 ≤ 70368744177000) :
  Calls Try.prog 67 #[.pointer (some ⟨g, 0, none⟩), x.val] w fun e w' => e = .returned (.tuple #[]) ∧ Wrt w' g (S.seat x) ∧ Turned w w' g := by
 have hgt := h.lt; have hE : Hid (S.seat x = S.nums [x.who, x.weight]) := rfl; obtain ⟨x1, x2⟩ := x; dsimp only [Seat.val]; go_enter Try.func67, Try.ntmps67
 go_wp2_with fail; have ll1 := S.nums_len [x1, x2]; simp only [List.length_cons, List.length_nil] at ll1; refine (numbers_any [x1, x2] 2 _ g (w.heap.size + 1) S ((h.alloc _).alloc _) (by have hN := Blk.new (w.alloc (.cells #[.int .i64 x1, .int .i64 x2] 38)) 3 #[.int .i64 x1, .int .i64 x2]; simpa using hN) (by omega) (by simp; omega)).mono ?_; rintro e w1 ⟨rfl, hW1, hC1⟩; have hB1 := hC1.blk ((Blk.new _ _ _).alloc _) (by omega) (by decide); have hT1 := (((Turned.refl w g).alloc (by omega) _).alloc (by simp; omega) _).trans hC1; have hlt1 := hB1.lt; have hgl1 := hW1.lt; generalize S.nums [x1, x2] = S1 at *; go_wp2_with fail
 go_end0
 exact ⟨rfl, Wrt.eq hW1 (by rw [hE.out] <;> grind), hT1⟩
set_option maxRecDepth 100000 in
set_option maxHeartbeats 400000 in
theorem putsSeat_any (l : List Seat) (A : Option Addr) (c B : Nat) (m : Int) (w : World) (g : Nat) (S : Out) (h : Wrt w g S) (hr : SeatsL w B A l) (hB : B ≤ g) (hl : S.b.length + 6 + sumL seatW l ≤ 70368744176000) (hm : l.length ≤ maxLen) :
  Calls Try.prog 66 #[.pointer (some ⟨g, 0, none⟩), .slice A l.length c, .int .i64 m, .func (.func 67) #[] #[]] w fun e w' => e = .returned (.tuple #[]) ∧ Wrt w' g (S.list l m Out.seat) ∧ Turned w w' g := by
 unfold maxLen at hm; have hgt := h.lt; have hn := ((S.lim l.length m).num_len l.length)
 have hb0 : (S.lim l.length m).b.length = S.b.length := rfl; have hE : Hid (S.list l m Out.seat = l.foldl Out.seat ((S.lim l.length m).num l.length)) := rfl; go_enter Try.func66, Try.ntmps66; go_wp2_with fail; refine (limited_any _ _ _ g _ h).mono ?_; rintro e w1 ⟨rfl, hW1, hT1⟩; go_wp2_with fail; refine (number_any _ _ g _ hW1 (by omega)).mono ?_; rintro e w2 ⟨rfl, hW2, hT2⟩; have hT02 := hT1.trans hT2; clear hT1 hT2 hW1; generalize (S.lim l.length m).num l.length = S2 at *; go_wp2_with fail
 go_loopw [9, 21] (fun _ i wr => ∃ j : Nat, i = .int .i64 (j : Int) ∧ j ≤ l.length ∧ Wrt wr g ((l.take j).foldl Out.seat S2) ∧ Turned w wr g) (fun _ i _ => l.length - (intOf i).toNat)
 case atStart => exact ⟨0, rfl, by omega, by simpa using hW2, hT02⟩
 case round =>
  obtain ⟨j, rfl, hj, hW, hT⟩ := hrel; have hgw := hW.lt
  by_cases hlt : j < l.length
  ·have hji : (j : Int) < (l.length : Int) := by omega
   obtain ⟨b, off, rfl, hbB, hc⟩ := SeatsL.at_ (hT.rd hr hB) hlt; have HS := Lib.hid (fold_take Out.seat S2 l j hlt); have hle := fold_len Out.seat seatW Out.seat_len (l.take j) S2; have hle2 := sumL_take seatW l j hlt; generalize hx : l[j] = x at *; clear hx; have c0 : wr.cell? ⟨b, off + j * 2, none⟩ = some (.int .i64 x.who) := hc 0 _ rfl; have c1 : wr.cell? ⟨b, off + j * 2 + 1, none⟩ = some (.int .i64 x.weight) := hc 1 _ rfl; clear hc; go_wp2_with fail; refine (wseat1_any x _ g _ (hW.alloc _) (by unfold seatW at *; omega)).mono ?_; rintro e w3 ⟨rfl, hW3, hT3⟩; go_wp2_with fail
   go_roundw
   case rel => exact ⟨j + 1, by go_num, by omega, by rw [HS.out]; exact hW3, (hT.alloc (Nat.le_of_lt hgw) _).trans hT3⟩
   case measure => simp [intOf]; omega
  ·have hji : ¬ (j : Int) < (l.length : Int) := by omega
   go_wp2
   go_end0
   rw [List.take_of_length_le (by omega)] at hW; exact ⟨rfl, by rw [hE.out]; exact hW, hT⟩
end Go.Proofs.Ytlfonmpgenoooaa
