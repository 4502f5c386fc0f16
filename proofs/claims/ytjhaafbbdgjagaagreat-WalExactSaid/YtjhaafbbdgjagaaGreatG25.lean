/- Of the texts Wr4, Wr5, Wr3, Wr6. -/
import Derived.Test.YtjhaafbbdgjagaaGreatProg
import Derived.Test.YtjhaafbbdgjagaaGreatG22
import Derived.Test.YtjhaafbbdgjagaaGreatG24
import Derived.BigGuardPart
set_option linter.unusedSimpArgs false
set_option linter.unusedVariables false
namespace Go.Proofs.YtjhaafbbdgjagaaGreat
open Go.RowKit
set_option maxRecDepth 100000 in
theorem rneed_any (b : Bool) (w : World) (g : Nat) (S : Out) (h : Ref w g S) :
  Calls Tryz.prog 159 #[.pointer (some ⟨g, 0, none⟩), .bool b] w fun e w' => e = .returned (.tuple #[]) ∧ Ref w' g (S.need (!b)) ∧ Turned w w' g := by
 obtain ⟨l, o, hb, hln, ho⟩ := h; have c1 := hb.c 2 rfl; have f1 := hb.frozen 2; have hgt := hb.lt; cases b
 ·go_enter Tryz.func159, Tryz.ntmps159; go_wp2
  go_end0
  exact ⟨rfl, ⟨l, o, by simpa [Out.need] using hb, hln, fun hf => by simpa [Out.need] using ho hf⟩, Turned.refl _ _⟩
 ·go_enter Tryz.func159, Tryz.ntmps159; go_wp2
  go_end0
  exact ⟨rfl, ⟨l, true, by simpa [Out.need] using hb.set_ 2 (.bool true), hln, fun hf => by simpa [Out.need] using (ho hf).1⟩, (Turned.refl _ _).setCell _ _⟩
set_option maxRecDepth 100000 in
theorem rflag_any (b : Bool) (w : World) (g : Nat) (S : Out) (h : Ref w g S) (hl : S.b.length ≤ 70368744177000) :
  Calls Tryz.prog 157 #[.pointer (some ⟨g, 0, none⟩), .bool b] w fun e w' => e = .returned (.tuple #[]) ∧ Ref w' g (S.flag b) ∧ Turned w w' g := by
 obtain ⟨l, o, hb, hln, ho⟩ := h; have c1 := hb.c 0 rfl; have f1 := hb.frozen 0; have hgt := hb.lt; have e1 : bs l ++ ({ data := #[1] } : ByteArray) = bs (l ++ [1]) := bs_add l [1]; have e0 : bs l ++ ({ data := #[0] } : ByteArray) = bs (l ++ [0]) := bs_add l [0]; cases b
 ·go_enter Tryz.func157, Tryz.ntmps157; go_wp2
  go_end0
  exact ⟨rfl, ⟨l ++ [0], o, hb.set_ 0 _, by simp [Out.flag]; omega, fun hf => by have := ho hf; simp [Out.flag, this.1, this.2]⟩, (Turned.refl _ _).setCell _ _⟩
 ·go_enter Tryz.func157, Tryz.ntmps157; go_wp2
  go_end0
  exact ⟨rfl, ⟨l ++ [1], o, hb.set_ 0 _, by simp [Out.flag]; omega, fun hf => by have := ho hf; simp [Out.flag, this.1, this.2]⟩, (Turned.refl _ _).setCell _ _⟩
set_option maxRecDepth 100000 in
theorem rdigest_any (d : Int) (w : World) (g : Nat) (S : Out) (h : Ref w g S) (hl : S.b.length ≤ 70368744177000) (h0 : 0 ≤ d) (h1 : d < 18446744073709551616) :
  Calls Tryz.prog 158 #[.pointer (some ⟨g, 0, none⟩), .int .u64 d] w fun e w' => e = .returned (.tuple #[]) ∧ Ref w' g (S.dig d) ∧ Turned w w' g := by
 obtain ⟨l, o, hb, hln, ho⟩ := h; have hgt := hb.lt; go_enter Tryz.func158, Tryz.ntmps158; go_wp2_with fail; refine (reight_any d _ h0 h1).mono ?_; rintro e w1 ⟨rfl, hb1⟩; have hb2 := hb.below hb1 hgt; have c1 := hb2.c 0 rfl; have f1 := hb2.frozen 0; have hT : Turned w w1 g := ⟨hb1.mono (Nat.le_of_lt hgt), fun k hk _ _ => hb1.block k hk⟩
 go_wp2_with fail
 go_end0
 exact ⟨rfl, ⟨l ++ be d 8, o, hb2.set_ 0 _, by simp [Out.dig]; omega, fun hf => by have := ho hf; simp [Out.dig, this.1, this.2]⟩, hT.setCell _ _⟩
set_option maxRecDepth 100000 in
theorem rnumber_any (n : Int) (w : World) (g : Nat) (S : Out) (h : Ref w g S) (hl : S.b.length ≤ 70368744177000) :
  Calls Tryz.prog 69 #[.pointer (some ⟨g, 0, none⟩), .int .i64 n] w fun e w' => e = .returned (.tuple #[]) ∧ Ref w' g (S.num n) ∧ Turned w w' g := by
 obtain ⟨l, o, hb, hln, ho⟩ := h; have hgt := hb.lt; have hc := @conv1 Tryz.prog 110 9 5 Tryz.underlying110 Tryz.underlying5 Tryz.underlying9
 by_cases hbad : n < 0 ∨ 1099511627775 < n
 ·have hS : Ref (w.setCell ⟨g, 1, none⟩ (.bool true)) g (S.num n) := by
   refine ⟨l, o, ?_, by simp [Out.num]; omega, fun hf => ?_⟩
   ·have := hb.set_ 1 (.bool true); simpa [Out.num, farN, hbad] using this
   ·simp [Out.num, farN, hbad] at hf
  have HS := Lib.hid hS; have c1 := hb.c 1 rfl; have f1 := hb.frozen 1; clear ho hS
  by_cases h0 : n < 0
  ·go_enter Tryz.func69, Tryz.ntmps69; go_wp2_with fail; exact bodyPost_ret (v := .tuple #[]) (by simp [results, Tryz.results69, go_sem]) rfl ⟨rfl, HS.out, (Turned.refl _ _).setCell _ _⟩
  ·have h1 : 1099511627775 < n := by omega
   clear hbad; go_enter Tryz.func69, Tryz.ntmps69; go_wp2_with fail; exact bodyPost_ret (v := .tuple #[]) (by simp [results, Tryz.results69, go_sem]) rfl ⟨rfl, HS.out, (Turned.refl _ _).setCell _ _⟩
 ·have h0 : ¬ n < 0 := by omega
  have h1 : ¬ 1099511627775 < n := by omega
  have HE : Hid (S.num n = ⟨S.b ++ numB n, S.far, S.odd⟩) := by show S.num n = _; simp [Out.num, numV, farN, h0, h1]
  clear hbad; go_enter Tryz.func69, Tryz.ntmps69; go_wp2_with fail
  go_loopw [1, 4] (fun x y wr => ∃ (k f : Nat) (m : Int), x = .int .i64 m ∧ y = .string (bs (be n k)) ∧ 0 ≤ m ∧ m ≤ n ∧ m < 256 ^ f ∧ k + f = 5 ∧ k + blenF f m = blenF 5 n ∧ m = n / 256 ^ k ∧ Blk wr g 126 #[.string (bs l), .bool S.far, .bool o] ∧ Turned w wr g) (fun x _ _ => (intOf x).toNat)
  case atStart => exact ⟨0, 5, n, rfl, rfl, by omega, by omega, by simp; omega, rfl, by simp, by simp, hb, Turned.refl _ _⟩
  case round =>
   obtain ⟨k, f, m, rfl, rfl, h2, hmn, h3, h4, h5, h6, hbr, hTr⟩ := hrel; have hbk := be_len n k; have H3 := Lib.hid h3; have H5 := Lib.hid h5; have H6 := Lib.hid h6; clear h3 h5 h6; have hgr := hbr.lt
   by_cases hm : 0 < m
   ·obtain ⟨n1, n2, n3⟩ := blen_next f m hm H3.out; have N2 := Lib.hid n2; have N3 := Lib.hid n3; clear n2 n3; go_wp2_with fail
    go_roundw
    case rel =>
     refine ⟨k + 1, f - 1, m / 256, rfl, ?_, by omega, by omega, N3.out, by omega, (by have := H5.out; rw [N2.out] at this; omega), by rw [H6.out, div_step], hbr.alloc _, hTr.alloc (Nat.le_of_lt hgr) _⟩; rw [H6.out]; simp [be]
    case measure => simp [intOf]; omega
   ·have hk : k = blenF 5 n := by have := H5.out; rw [blen_stop f m hm] at this; simpa using this
    have hk5 := blenF_le 5 n; have HK := Lib.hid hk; clear hk; rw [← HK.out] at hk5; have hlen := be_len n k; have c0 : wr.drew.cell? ⟨g, 0, none⟩ = some (Value.string (bs l)) := hbr.c 0 rfl; have f0 : wr.drew.frozen? ⟨g, 0, none⟩ = false := hbr.frozen 0; have hwk : IntKind.u8.wrap (k : Int) = (k : Int) := by simp [IntKind.wrap_u8]; omega
    have hcD : Sem.run Tryz.prog (convert 110 9 (.slice (some ⟨wr.heap.size, 0, none⟩) 1 1)) (wr.alloc (.cells #[.int .u8 (k : Int)] 5)).drew = .ok (.string (bs [UInt8.ofNat k])) (wr.alloc (.cells #[.int .u8 (k : Int)] 5)).drew := hc (k : Int) wr.drew; have cA : (wr.alloc (.cells #[.int .u8 (k : Int)] 5)).drew.cell? ⟨g, 0, none⟩ = some (Value.string (bs l)) := ((hbr.alloc _).cell 0).trans (show _ = some (Value.string (bs l)) from rfl); have fA : (wr.alloc (.cells #[.int .u8 (k : Int)] 5)).drew.frozen? ⟨g, 0, none⟩ = false := (hbr.alloc _).frozen 0; clear hc; have q1 : ¬ 9223372036854775807 < l.length + 1 := by omega
    have q2 : ¬ 9223372036854775807 < l.length + 1 + k := by omega
    go_wp2_with fail
    go_region_law (fail)
    all_goals
     go_wp2_with fail
     go_end0
     refine ⟨rfl, ⟨l ++ UInt8.ofNat k :: be n k, o, by rw [HE.out]; exact ((hbr.set_ 0 _).alloc _).drew, by rw [HE.out]; simp [numB, ← HK.out, be_len]; omega, fun hf => ?_⟩, ((hTr.setCell _ _).alloc (by simp [World.setCell]; omega) _).drew⟩; rw [HE.out] at hf ⊢
     have := ho hf; simp [numB, ← HK.out, this.1, this.2]
set_option maxRecDepth 100000 in
theorem rcount_any (n m : Int) (w : World) (g : Nat) (S : Out) (h : Ref w g S) (hl : S.b.length ≤ 70368744177000) :
  Calls Tryz.prog 163 #[.pointer (some ⟨g, 0, none⟩), .int .i64 n, .int .i64 m] w fun e w' => e = .returned (.tuple #[]) ∧ Ref w' g ((S.lim n m).num n) ∧ Turned w w' g := by
 have hgt := h.lt
 by_cases hm : m < n
 ·have hS : Ref (w.setCell ⟨g, 1, none⟩ (.bool true)) g (S.lim n m) := by
   obtain ⟨l, o, hb, hln, ho⟩ := h; refine ⟨l, o, by simpa [Out.lim, hm] using hb.set_ 1 (.bool true), hln, fun hf => ?_⟩; simp [Out.lim, hm] at hf
  have c1 : ∃ x, w.cell? ⟨g, 1, none⟩ = some x := by
   obtain ⟨l, o, hb, hln, ho⟩ := h; exact ⟨_, hb.c 1 rfl⟩
  obtain ⟨x, c1⟩ := c1; have f1 : w.frozen? ⟨g, 1, none⟩ = false := by
   obtain ⟨l, o, hb, hln, ho⟩ := h; exact hb.frozen 1
  have HS := Lib.hid hS; clear h hS; go_enter Tryz.func163, Tryz.ntmps163; go_wp2_with fail; refine (rnumber_any _ _ g _ HS.out hl).mono ?_; rintro e w1 ⟨rfl, hW1, hC1⟩; go_wp2_with fail
  go_end0
  exact ⟨rfl, hW1, ((Turned.refl _ _).setCell _ _).trans hC1⟩
 ·have hd : S.lim n m = S := by simp [Out.lim, hm]
  have HD := Lib.hid hd; clear hd; go_enter Tryz.func163, Tryz.ntmps163; go_wp2_with fail; refine (rnumber_any _ _ g _ h hl).mono ?_; rintro e w1 ⟨rfl, hW1, hC1⟩; go_wp2_with fail
  go_end0
  exact ⟨rfl, by rw [HD.out]; exact hW1, hC1⟩
set_option maxRecDepth 100000 in
theorem rtext_any (s : List UInt8) (m : Int) (w : World) (g : Nat) (S : Out) (h : Ref w g S) (hl : S.b.length + s.length + 6 ≤ 70368744177000) :
  Calls Tryz.prog 178 #[.pointer (some ⟨g, 0, none⟩), .string (bs s), .int .i64 m] w fun e w' => e = .returned (.tuple #[]) ∧ Ref w' g (S.text s m) ∧ Turned w w' g := by
 have hz := bs_size s; have hn := ((S.lim s.length m).num_len s.length)
 have hb0 : (S.lim s.length m).b.length = S.b.length := rfl; have hE : Hid (S.text s m = ((S.lim s.length m).num s.length).raw s) := rfl; go_enter Tryz.func178, Tryz.ntmps178; go_wp2_with fail; refine (rcount_any _ _ _ g _ h (by omega)).mono ?_; rintro e w1 ⟨rfl, ⟨l, o, hb, hln, ho⟩, hT1⟩; have hgt := hb.lt; have c1 := hb.c 0 rfl; have f1 := hb.frozen 0; generalize (S.lim s.length m).num s.length = S2 at *; go_wp2_with fail
 go_end0
 rw [hE.out]; exact ⟨rfl, ⟨l ++ s, o, hb.set_ 0 _, by simp [Out.raw]; omega, fun hf => by have := ho hf; simp [Out.raw, this.1, this.2]⟩, hT1.setCell _ _⟩
set_option maxRecDepth 100000 in
set_option maxHeartbeats 1000000 in
theorem rvote_any (x : VoteD) (hx : x.ok) (w : World) (g : Nat) (S : Out) (h : Ref w g S) (hl : S.b.length + 200 ≤ 70368744177000) :
  Calls Tryz.prog 76 #[.pointer (some ⟨g, 0, none⟩), x.val] w fun e w' => e = .returned (.tuple #[]) ∧ Ref w' g (S.vote x) ∧ Turned w w' g := by
 have hgt := h.lt; have hE : Hid (S.vote x = ((((((S.num x.h).num x.r).num x.s).flag x.has).dig x.b).num x.f).need (voteOk x)) := rfl; have hK : Hid (voteOk x = (decide (x.s ≤ 2) && decide (1 ≤ x.f) && (x.has || (decide (x.b = 0) && !decide (x.s = 0))))) := rfl; obtain ⟨x1, x2, x3, x4, x5, x6⟩ := x; obtain ⟨hx0, hx1⟩ := hx; dsimp only at hx0 hx1; dsimp only [VoteD.val]; go_enter Tryz.func76, Tryz.ntmps76; go_wp2_with fail; refine (rnumber_any _ _ g _ (h.alloc _) (by omega)).mono ?_; rintro e w1 ⟨rfl, hW1, hC1⟩; have hB1 := hC1.blk (Blk.new _ _ _) (by omega) (by decide); have hT1 := ((Turned.refl w g).alloc (by omega) _).trans hC1; have hlt1 := hB1.lt; have hgl1 := hW1.lt; have ll1 := S.num_len x1; generalize S.num x1 = S1 at *; have c1_0 := hB1.c 0 rfl; have c1_1 := hB1.c 1 rfl; have c1_2 := hB1.c 2 rfl; have c1_3 := hB1.c 3 rfl; have c1_4 := hB1.c 4 rfl; have c1_5 := hB1.c 5 rfl; go_wp2_with fail; refine (rnumber_any _ _ g _ hW1 (by omega)).mono ?_; rintro e w2 ⟨rfl, hW2, hC2⟩; have hB2 := hC2.blk hB1 (by omega) (by decide); have hT2 := hT1.trans hC2; have hlt2 := hB2.lt; have hgl2 := hW2.lt; have ll2 := S1.num_len x2; generalize S1.num x2 = S2 at *; have c2_0 := hB2.c 0 rfl; have c2_1 := hB2.c 1 rfl; have c2_2 := hB2.c 2 rfl; have c2_3 := hB2.c 3 rfl; have c2_4 := hB2.c 4 rfl; have c2_5 := hB2.c 5 rfl; go_wp2_with fail; refine (rnumber_any _ _ g _ hW2 (by omega)).mono ?_; rintro e w3 ⟨rfl, hW3, hC3⟩; have hB3 := hC3.blk hB2 (by omega) (by decide); have hT3 := hT2.trans hC3; have hlt3 := hB3.lt; have hgl3 := hW3.lt; have ll3 := S2.num_len x3; generalize S2.num x3 = S3 at *; have c3_0 := hB3.c 0 rfl; have c3_1 := hB3.c 1 rfl; have c3_2 := hB3.c 2 rfl; have c3_3 := hB3.c 3 rfl; have c3_4 := hB3.c 4 rfl; have c3_5 := hB3.c 5 rfl; go_wp2_with fail; refine (rflag_any _ _ g _ hW3 (by omega)).mono ?_; rintro e w4 ⟨rfl, hW4, hC4⟩; have hB4 := hC4.blk hB3 (by omega) (by decide); have hT4 := hT3.trans hC4
 have hlt4 := hB4.lt; have hgl4 := hW4.lt; have ll4 := (by simp [Out.flag] : (S3.flag x4).b.length ≤ S3.b.length + 1)
 generalize S3.flag x4 = S4 at *; have c4_0 := hB4.c 0 rfl; have c4_1 := hB4.c 1 rfl; have c4_2 := hB4.c 2 rfl; have c4_3 := hB4.c 3 rfl; have c4_4 := hB4.c 4 rfl; have c4_5 := hB4.c 5 rfl; go_wp2_with fail; refine (rdigest_any _ _ g _ hW4 (by omega) (by omega) (by omega)).mono ?_; rintro e w5 ⟨rfl, hW5, hC5⟩; have hB5 := hC5.blk hB4 (by omega) (by decide); have hT5 := hT4.trans hC5; have hlt5 := hB5.lt; have hgl5 := hW5.lt; have ll5 := (by simp [Out.dig, be_len] : (S4.dig x5).b.length ≤ S4.b.length + 8)
 generalize S4.dig x5 = S5 at *; have c5_0 := hB5.c 0 rfl; have c5_1 := hB5.c 1 rfl; have c5_2 := hB5.c 2 rfl; have c5_3 := hB5.c 3 rfl; have c5_4 := hB5.c 4 rfl; have c5_5 := hB5.c 5 rfl; go_wp2_with fail; refine (rnumber_any _ _ g _ hW5 (by omega)).mono ?_; rintro e w6 ⟨rfl, hW6, hC6⟩; have hB6 := hC6.blk hB5 (by omega) (by decide); have hT6 := hT5.trans hC6; have hlt6 := hB6.lt; have hgl6 := hW6.lt; have ll6 := S5.num_len x6; generalize S5.num x6 = S6 at *; have c6_0 := hB6.c 0 rfl; have c6_1 := hB6.c 1 rfl; have c6_2 := hB6.c 2 rfl; have c6_3 := hB6.c 3 rfl; have c6_4 := hB6.c 4 rfl; have c6_5 := hB6.c 5 rfl; go_wp2_with fail
 all_goals
  refine (rneed_any _ _ g _ hW6).mono ?_; rintro e w7 ⟨rfl, hW7, hC7⟩; have hB7 := hC7.blk hB6 (by omega) (by decide); have hT7 := hT6.trans hC7; have hlt7 := hB7.lt; have hgl7 := hW7.lt; have c7_0 := hB7.c 0 rfl; have c7_1 := hB7.c 1 rfl; have c7_2 := hB7.c 2 rfl; have c7_3 := hB7.c 3 rfl; have c7_4 := hB7.c 4 rfl; have c7_5 := hB7.c 5 rfl; go_wp2_with fail
  all_goals
   refine (rneed_any _ _ g _ hW7).mono ?_; rintro e w8 ⟨rfl, hW8, hC8⟩; have hB8 := hC8.blk hB7 (by omega) (by decide); have hT8 := hT7.trans hC8; have hlt8 := hB8.lt; have hgl8 := hW8.lt; go_wp2_with fail
   go_end0
   exact ⟨rfl, Ref.eq hW8 (by rw [hE.out, hK.out] <;> (first | rfl | ((try rw [Out.need_need]); congr 1; grind))), hT8⟩
set_option maxRecDepth 100000 in
set_option maxHeartbeats 400000 in
theorem wvote_any (x : VoteD) (hx : x.ok) (w : World) (g : Nat) (S : Out) (h : Wrt w g S) (hl : S.b.length + 200 ≤ 70368744177000) :
  Calls Tryz.prog 73 #[.pointer (some ⟨g, 0, none⟩), x.val] w fun e w' => e = .returned (.tuple #[]) ∧ Wrt w' g (S.vote x) ∧ Turned w w' g := by
 have hgt := h.lt; have hE : Hid (S.vote x = ((((S.nums [x.h, x.r, x.s]).flag x.has).dig x.b).num x.f).need (voteOk x)) := rfl; have hK : Hid (voteOk x = (decide (x.s ≤ 2) && decide (1 ≤ x.f) && (x.has || (decide (x.b = 0) && !decide (x.s = 0))))) := rfl; obtain ⟨x1, x2, x3, x4, x5, x6⟩ := x; obtain ⟨hx0, hx1⟩ := hx; dsimp only at hx0 hx1; dsimp only [VoteD.val]; go_enter Tryz.func73, Tryz.ntmps73; go_wp2_with fail; have ll1 := S.nums_len [x1, x2, x3]; simp only [List.length_cons, List.length_nil] at ll1; refine (numbers_any [x1, x2, x3] 3 _ g (w.heap.size + 1) S ((h.alloc _).alloc _) (by have hN := Blk.new (w.alloc (.cells #[.int .i64 x1, .int .i64 x2, .int .i64 x3, .bool x4, .int .u64 x5, .int .i64 x6] 42)) 3 #[.int .i64 x1, .int .i64 x2, .int .i64 x3]; simpa using hN) (by omega) (by simp; omega)).mono ?_; rintro e w1 ⟨rfl, hW1, hC1⟩; have hB1 := hC1.blk ((Blk.new _ _ _).alloc _) (by omega) (by decide); have hT1 := (((Turned.refl w g).alloc (by omega) _).alloc (by simp; omega) _).trans hC1; have hlt1 := hB1.lt; have hgl1 := hW1.lt; generalize S.nums [x1, x2, x3] = S1 at *; have c1_0 := hB1.c 0 rfl; have c1_1 := hB1.c 1 rfl; have c1_2 := hB1.c 2 rfl; have c1_3 := hB1.c 3 rfl; have c1_4 := hB1.c 4 rfl; have c1_5 := hB1.c 5 rfl; go_wp2_with fail; refine (flag_any _ _ g _ hW1 (by omega)).mono ?_; rintro e w2 ⟨rfl, hW2, hC2⟩; have hB2 := hC2.blk hB1 (by omega) (by decide); have hT2 := hT1.trans hC2; have hlt2 := hB2.lt; have hgl2 := hW2.lt; have ll2 := (by simp [Out.flag] : (S1.flag x4).b.length ≤ S1.b.length + 1)
 generalize S1.flag x4 = S2 at *; have c2_0 := hB2.c 0 rfl; have c2_1 := hB2.c 1 rfl; have c2_2 := hB2.c 2 rfl; have c2_3 := hB2.c 3 rfl; have c2_4 := hB2.c 4 rfl; have c2_5 := hB2.c 5 rfl; go_wp2_with fail; refine (digest_any _ _ g _ hW2 (by omega) (by omega) (by omega)).mono ?_; rintro e w3 ⟨rfl, hW3, hC3⟩; have hB3 := hC3.blk hB2 (by omega) (by decide); have hT3 := hT2.trans hC3; have hlt3 := hB3.lt; have hgl3 := hW3.lt; have ll3 := (by simp [Out.dig, be_len] : (S2.dig x5).b.length ≤ S2.b.length + 8)
 generalize S2.dig x5 = S3 at *; have c3_0 := hB3.c 0 rfl; have c3_1 := hB3.c 1 rfl; have c3_2 := hB3.c 2 rfl; have c3_3 := hB3.c 3 rfl; have c3_4 := hB3.c 4 rfl; have c3_5 := hB3.c 5 rfl; go_wp2_with fail; refine (number_any _ _ g _ hW3 (by omega)).mono ?_; rintro e w4 ⟨rfl, hW4, hC4⟩; have hB4 := hC4.blk hB3 (by omega) (by decide); have hT4 := hT3.trans hC4; have hlt4 := hB4.lt; have hgl4 := hW4.lt; have ll4 := S3.num_len x6; generalize S3.num x6 = S4 at *; have c4_0 := hB4.c 0 rfl; have c4_1 := hB4.c 1 rfl; have c4_2 := hB4.c 2 rfl; have c4_3 := hB4.c 3 rfl; have c4_4 := hB4.c 4 rfl; have c4_5 := hB4.c 5 rfl; go_wp2_with fail
 all_goals
  refine (need_any _ _ g _ hW4).mono ?_; rintro e w5 ⟨rfl, hW5, hC5⟩; have hB5 := hC5.blk hB4 (by omega) (by decide); have hT5 := hT4.trans hC5; have hlt5 := hB5.lt; have hgl5 := hW5.lt; go_wp2_with fail
  go_end0
  exact ⟨rfl, Wrt.eq hW5 (by rw [hE.out, hK.out] <;> (first | rfl | (congr 1; grind))), hT5⟩
set_option maxRecDepth 100000 in
set_option maxHeartbeats 400000 in
theorem wturn_any (x : TurnD) (hx : x.ok) (w : World) (g : Nat) (S : Out) (h : Wrt w g S) (hl : S.b.length + 200 ≤ 70368744177000) :
  Calls Tryz.prog 175 #[.pointer (some ⟨g, 0, none⟩), x.val] w fun e w' => e = .returned (.tuple #[]) ∧ Wrt w' g (S.turn x) ∧ Turned w w' g := by
 have hgt := h.lt; have hE : Hid (S.turn x = ((S.num x.p).dig x.d).lim x.p 287) := rfl; obtain ⟨x1, x2⟩ := x; obtain ⟨hx0, hx1⟩ := hx; dsimp only at hx0 hx1; dsimp only [TurnD.val]; go_enter Tryz.func175, Tryz.ntmps175; go_wp2_with fail; refine (number_any _ _ g _ (h.alloc _) (by omega)).mono ?_; rintro e w1 ⟨rfl, hW1, hC1⟩; have hB1 := hC1.blk (Blk.new _ _ _) (by omega) (by decide); have hT1 := ((Turned.refl w g).alloc (by omega) _).trans hC1; have hlt1 := hB1.lt; have hgl1 := hW1.lt; have ll1 := S.num_len x1; generalize S.num x1 = S1 at *; have c1_0 := hB1.c 0 rfl; have c1_1 := hB1.c 1 rfl; go_wp2_with fail; refine (digest_any _ _ g _ hW1 (by omega) (by omega) (by omega)).mono ?_; rintro e w2 ⟨rfl, hW2, hC2⟩; have hB2 := hC2.blk hB1 (by omega) (by decide); have hT2 := hT1.trans hC2; have hlt2 := hB2.lt; have hgl2 := hW2.lt; have ll2 := (by simp [Out.dig, be_len] : (S1.dig x2).b.length ≤ S1.b.length + 8)
 generalize S1.dig x2 = S2 at *; have c2_0 := hB2.c 0 rfl; have c2_1 := hB2.c 1 rfl; go_wp2_with fail; refine (limited_any _ _ _ g _ hW2).mono ?_; rintro e w3 ⟨rfl, hW3, hC3⟩; have hB3 := hC3.blk hB2 (by omega) (by decide); have hT3 := hT2.trans hC3; have hlt3 := hB3.lt; have hgl3 := hW3.lt; generalize S2.lim x1 287 = S3 at *; go_wp2_with fail
 go_end0
 exact ⟨rfl, Wrt.eq hW3 (by rw [hE.out] <;> (first | rfl | (congr 1; grind))), hT3⟩
set_option maxRecDepth 100000 in
set_option maxHeartbeats 400000 in
theorem wseat1_any (x : Seat) (w : World) (g : Nat) (S : Out) (h : Wrt w g S) (hl : S.b.length + 200 ≤ 70368744177000) :
  Calls Tryz.prog 168 #[.pointer (some ⟨g, 0, none⟩), x.val] w fun e w' => e = .returned (.tuple #[]) ∧ Wrt w' g (S.seat x) ∧ Turned w w' g := by
 have hgt := h.lt; have hE : Hid (S.seat x = S.nums [x.who, x.weight]) := rfl; obtain ⟨x1, x2⟩ := x; dsimp only [Seat.val]; go_enter Tryz.func168, Tryz.ntmps168
 go_wp2_with fail; have ll1 := S.nums_len [x1, x2]; simp only [List.length_cons, List.length_nil] at ll1; refine (numbers_any [x1, x2] 2 _ g (w.heap.size + 1) S ((h.alloc _).alloc _) (by have hN := Blk.new (w.alloc (.cells #[.int .i64 x1, .int .i64 x2] 226)) 3 #[.int .i64 x1, .int .i64 x2]; simpa using hN) (by omega) (by simp; omega)).mono ?_; rintro e w1 ⟨rfl, hW1, hC1⟩; have hB1 := hC1.blk ((Blk.new _ _ _).alloc _) (by omega) (by decide); have hT1 := (((Turned.refl w g).alloc (by omega) _).alloc (by simp; omega) _).trans hC1; have hlt1 := hB1.lt; have hgl1 := hW1.lt; generalize S.nums [x1, x2] = S1 at *; go_wp2_with fail
 go_end0
 exact ⟨rfl, Wrt.eq hW1 (by rw [hE.out] <;> grind), hT1⟩
set_option maxRecDepth 100000 in
set_option maxHeartbeats 400000 in
theorem putsSeat_any (l : List Seat) (A : Option Addr) (c B : Nat) (m : Int) (w : World) (g : Nat) (S : Out) (h : Wrt w g S) (hr : SeatsL w B A l) (hB : B ≤ g) (hl : S.b.length + 6 + sumL seatW l ≤ 70368744176000) (hm : l.length ≤ maxLen) :
  Calls Tryz.prog 167 #[.pointer (some ⟨g, 0, none⟩), .slice A l.length c, .int .i64 m, .func (.func 168) #[] #[]] w fun e w' => e = .returned (.tuple #[]) ∧ Wrt w' g (S.list l m Out.seat) ∧ Turned w w' g := by
 unfold maxLen at hm; have hgt := h.lt; have hn := ((S.lim l.length m).num_len l.length)
 have hb0 : (S.lim l.length m).b.length = S.b.length := rfl; have hE : Hid (S.list l m Out.seat = l.foldl Out.seat ((S.lim l.length m).num l.length)) := rfl; go_enter Tryz.func167, Tryz.ntmps167; go_wp2_with fail; refine (limited_any _ _ _ g _ h).mono ?_; rintro e w1 ⟨rfl, hW1, hT1⟩; go_wp2_with fail; refine (number_any _ _ g _ hW1 (by omega)).mono ?_; rintro e w2 ⟨rfl, hW2, hT2⟩; have hT02 := hT1.trans hT2; clear hT1 hT2 hW1; generalize (S.lim l.length m).num l.length = S2 at *; go_wp2_with fail
 go_loopw [9, 21] (fun _ i wr => ∃ j : Nat, i = .int .i64 (j : Int) ∧ j ≤ l.length ∧ Wrt wr g ((l.take j).foldl Out.seat S2) ∧ Turned w wr g) (fun _ i _ => l.length - (intOf i).toNat)
 case atStart => exact ⟨0, rfl, by omega, by simpa using hW2, hT02⟩
 case round =>
  obtain ⟨j, rfl, hj, hW, hT⟩ := hrel; have hgw := hW.lt
  by_cases hlt : j < l.length
  ·have hji : (j : Int) < (l.length : Int) := by omega
   obtain ⟨b, off, rfl, hbB, hc⟩ := SeatsL.at_ (hT.rd hr hB) hlt; have HS := Lib.hid (fold_take Out.seat S2 l j hlt); have hle := fold_len Out.seat seatW Out.seat_len (l.take j) S2; have hle2 := sumL_take seatW l j hlt; generalize hx : l[j] = x at *; clear hx; have c0 : wr.cell? ⟨b, off + j * 2, none⟩ = some (.int .i64 x.who) := hc 0 _ rfl; have c1 : wr.cell? ⟨b, off + j * 2 + 1, none⟩ = some (.int .i64 x.weight) := hc 1 _ rfl; clear hc; go_wp2_with fail; refine (wseat1_any x _ g _ (hW.alloc _) (by unfold seatW at *; omega)).mono ?_; rintro e w3 ⟨rfl, hW3, hT3⟩; go_wp2_with fail
   go_roundw
   case rel => exact ⟨j + 1, by go_num, by omega, by rw [HS.out]; exact hW3, (hT.alloc (Nat.le_of_lt hgw) _).trans hT3⟩
   case measure => simp [intOf]; omega
  ·have hji : ¬ (j : Int) < (l.length : Int) := by omega
   go_wp2
   go_end0
   rw [List.take_of_length_le (by omega)] at hW; exact ⟨rfl, by rw [hE.out]; exact hW, hT⟩
end Go.Proofs.YtjhaafbbdgjagaaGreat
