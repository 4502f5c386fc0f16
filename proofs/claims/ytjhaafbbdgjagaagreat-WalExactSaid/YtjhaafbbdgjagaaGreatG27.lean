/- Of the texts Wr7, WrT, WrU, Heavy, Wr8, Wr9, Wr11, Wr10, Wr13, Wr14. -/
import Derived.Test.YtjhaafbbdgjagaaGreatProg
import Derived.Test.YtjhaafbbdgjagaaGreatG25
import Derived.Test.YtjhaafbbdgjagaaGreatG26
import Derived.Deep.QuietTactic
import Derived.BigQuiet
import Derived.Deep.DeepCutAuto
set_option linter.unusedSimpArgs false
set_option linter.unusedVariables false
namespace Go.Proofs.YtjhaafbbdgjagaaGreat
open Go.RowKit
def allTo (f : Nat → Bool) : Nat → Bool
 | 0 => true
 | k + 1 => allTo f k && f k
def prevWho (l : List Seat) (k : Nat) : Int := if k = 0 then 0 else (l.getD (k - 1) ⟨0, 0⟩).who
def benchOkAt (l : List Seat) (k : Nat) : Bool := decide (prevWho l k < (l.getD k ⟨0, 0⟩).who) && decide (1 ≤ (l.getD k ⟨0, 0⟩).weight)
def Out.bench (S : Out) (l : List Seat) : Out := (S.list l 7 Out.seat).need (allTo (benchOkAt l) l.length)
theorem Out.need_true (S : Out) : S.need true = S := by simp [Out.need]
theorem Out.bench_len (S : Out) (l : List Seat) : (S.bench l).b.length ≤ S.b.length + 6 + 12 * l.length := by
 have := list_len Out.seat seatW Out.seat_len l 7 S; rw [show sumL seatW l = 12 * l.length from sumL_const 12 l] at this; exact this
set_option maxRecDepth 100000 in
set_option maxHeartbeats 400000 in
theorem wbench_any (l : List Seat) (A : Option Addr) (c B : Nat) (w : World) (g : Nat) (S : Out) (h : Wrt w g S) (hr : SeatsL w B A l) (hB : B ≤ g) (hl : S.b.length + 200 + 12 * l.length ≤ 70368744176000) (hm : l.length ≤ maxLen) :
  Calls Tryz.prog 85 #[.pointer (some ⟨g, 0, none⟩), .slice A l.length c] w fun e w' => e = .returned (.tuple #[]) ∧ Wrt w' g (S.bench l) ∧ Turned w w' g := by
 have hgt := h.lt; have hE : Hid (S.bench l = (S.list l 7 Out.seat).need (allTo (benchOkAt l) l.length)) := rfl; have hm' := hm; unfold maxLen at hm; go_enter Tryz.func85, Tryz.ntmps85; go_wp2_with fail; refine (putsSeat_any l A c B 7 _ g S h hr hB (by rw [show sumL seatW l = 12 * l.length from sumL_const 12 l]; omega) hm').mono ?_; rintro e w1 ⟨rfl, hW1, hT1⟩; generalize S.list l 7 Out.seat = S2 at *; go_wp2_with fail
 go_loopw [4, 6, 12] (fun x _ i wr => ∃ j : Nat, i = .int .i64 (j : Int) ∧ j ≤ l.length ∧ x = .int .i64 (prevWho l j) ∧ Wrt wr g (S2.need (allTo (benchOkAt l) j)) ∧ Turned w wr g) (fun _ _ i _ => l.length - (intOf i).toNat)
 case atStart => exact ⟨0, rfl, by omega, rfl, by rw [show allTo (benchOkAt l) 0 = true from rfl, Out.need_true]; exact hW1, hT1⟩
 case round =>
  obtain ⟨j, rfl, hj, rfl, hW, hT⟩ := hrel; have hgw := hW.lt
  by_cases hlt : j < l.length
  ·have hji : (j : Int) < (l.length : Int) := by omega
   obtain ⟨b, off, rfl, hbB, hc⟩ := SeatsL.at_ (hT.rd hr hB) hlt; have hs : Hid (benchOkAt l j = (decide (prevWho l j < l[j].who) && decide (1 ≤ l[j].weight))) := by show _ = _; simp [benchOkAt, List.getElem?_eq_getElem hlt]
   have hs2 : Hid (allTo (benchOkAt l) (j + 1) = (allTo (benchOkAt l) j && benchOkAt l j)) := rfl; have hs3 : Hid (prevWho l (j + 1) = l[j].who) := by show _ = _; simp [prevWho, List.getElem?_eq_getElem hlt]
   have c0 : wr.cell? ⟨b, off + j * 2, none⟩ = some (.int .i64 l[j].who) := hc 0 _ rfl; have c1 : wr.cell? ⟨b, off + j * 2 + 1, none⟩ = some (.int .i64 l[j].weight) := hc 1 _ rfl; generalize l[j] = x at *; clear hc; generalize prevWho l j = pv at *; go_wp2_with fail
   all_goals
    refine (need_any _ _ g _ (hW.alloc _)).mono ?_; rintro e w3 ⟨rfl, hW3, hT3⟩; have hB3 := hT3.blk (Blk.new _ _ _) (by omega) (by decide); have c2 := hB3.c 0 rfl; go_wp2_with fail
    go_roundw
    case rel => exact ⟨j + 1, by go_num, by omega, by rw [hs3.out], hW3.eq (by rw [Out.need_need, hs2.out, hs.out]; congr 2; grind), (hT.alloc (Nat.le_of_lt hgw) _).trans hT3⟩
    case measure => simp [intOf]; omega
  ·have hji : ¬ (j : Int) < (l.length : Int) := by omega
   have hjl : Hid (j = l.length) := show j = l.length by omega
   go_wp2
   go_end0
   exact ⟨rfl, by rw [hE.out, ← hjl.out]; exact hW, hT⟩
theorem Ref.ifNear {w : World} {g : Nat} {S S' : Out} (h : Ref w g S) (hf : S.far = S'.far) (hn : S.b.length ≤ S'.b.length) (hb : S.far = false → S.b = S'.b ∧ S.odd = S'.odd) : Ref w g S' := by
 obtain ⟨l, o, hb', hln, ho⟩ := h; exact ⟨l, o, hf ▸ hb', by omega, fun h => by
  have hS : S.far = false := by rw [hf]; exact h
  have h1 := ho hS; have h2 := hb hS; exact ⟨h1.1.trans h2.1, h1.2.trans h2.2⟩⟩
theorem Out.need_num (S : Out) (a : Bool) (n : Int) : (S.need a).num n = (S.num n).need a := rfl
def rbenchOkAt (l : List Seat) (k : Nat) : Bool := !(decide ((l.getD k ⟨0, 0⟩).who < 1) || decide ((l.getD k ⟨0, 0⟩).weight < 1) || (decide (0 < k) && decide ((l.getD k ⟨0, 0⟩).who ≤ (l.getD (k - 1) ⟨0, 0⟩).who)))
theorem Out.seat_far (l : List Seat) (S : Out) (h : (l.foldl Out.seat S).far = false) : S.far = false ∧ ∀ s ∈ l, 0 ≤ s.who := by
 induction l generalizing S with
 | nil => exact ⟨h, by simp⟩
 | cons x l ih =>
  rw [List.foldl_cons] at h; obtain ⟨h1, h2⟩ := ih _ h; have h3 : ((S.far || farN x.who) || farN x.weight) = false := h1; simp only [Bool.or_eq_false_iff] at h3; have h4 := h3.1.2; simp [farN] at h4; exact ⟨h3.1.1, fun s hs => by
   rcases List.mem_cons.1 hs with rfl | hs
   ·exact h4.1
   ·exact h2 s hs⟩
theorem allTo_congr (f g : Nat → Bool) (n : Nat) (h : ∀ k, k < n → f k = g k) : allTo f n = allTo g n := by
 induction n with
 | zero => rfl
 | succ n ih => rw [allTo, allTo, ih (fun k hk => h k (by omega)), h n (by omega)]
theorem bench_oks (l : List Seat) (h : ∀ s ∈ l, 0 ≤ s.who) : allTo (rbenchOkAt l) l.length = allTo (benchOkAt l) l.length := by
 refine allTo_congr _ _ _ fun k hk => ?_
 have h1 := h l[k] (List.getElem_mem hk); unfold rbenchOkAt benchOkAt prevWho
 rcases Nat.eq_zero_or_pos k with h0 | h0
 ·subst h0; simp [List.getElem?_eq_getElem hk]
  grind
 ·have h2 := h l[k - 1] (List.getElem_mem (by omega)); simp [List.getElem?_eq_getElem hk, List.getElem?_eq_getElem (show k - 1 < l.length by omega), show ¬ k = 0 by omega, h0]
  grind
theorem Out.bench_eq {w : World} {g : Nat} {S : Out} (l : List Seat) (h : Ref w g ((l.foldl Out.seat ((S.lim l.length 7).num l.length)).need (allTo (rbenchOkAt l) l.length))) : Ref w g (S.bench l) :=
 h.ifNear rfl (Nat.le_refl _) fun hf => ⟨rfl, by
  have := (Out.seat_far l _ hf).2; show (_ || _) = (_ || _); rw [bench_oks l this]; rfl⟩
set_option maxRecDepth 100000 in
set_option maxHeartbeats 400000 in
theorem rbench_any (l : List Seat) (A : Option Addr) (c B : Nat) (w : World) (g : Nat) (S : Out) (h : Ref w g S) (hr : SeatsL w B A l) (hB : B ≤ g) (hl : S.b.length + 200 + 12 * l.length ≤ 70368744176000) (hm : l.length ≤ maxLen) :
  Calls Tryz.prog 88 #[.pointer (some ⟨g, 0, none⟩), .slice A l.length c] w fun e w' => e = .returned (.tuple #[]) ∧ Ref w' g (S.bench l) ∧ Turned w w' g := by
 have hgt := h.lt; have hm' := hm; unfold maxLen at hm; have hn := ((S.lim l.length 7).num_len l.length)
 have hb0 : (S.lim l.length 7).b.length = S.b.length := rfl; have hsw : sumL seatW l = 12 * l.length := sumL_const 12 l; go_enter Tryz.func88, Tryz.ntmps88; go_wp2_with fail; refine (rcount_any _ _ _ g _ h (by omega)).mono ?_; rintro e w1 ⟨rfl, hW1, hT1⟩; have hE := Lib.hid (fun w' => @Out.bench_eq w' g S l); generalize (S.lim l.length 7).num l.length = S2 at *; go_wp2_with fail
 go_loopw [4] (fun i wr => ∃ j : Nat, i = .int .i64 (j : Int) ∧ j ≤ l.length ∧ Ref wr g (((l.take j).foldl Out.seat S2).need (allTo (rbenchOkAt l) j)) ∧ Turned w wr g) (fun i _ => l.length - (intOf i).toNat)
 case atStart => exact ⟨0, rfl, by omega, by rw [show allTo (rbenchOkAt l) 0 = true from rfl, Out.need_true]; exact hW1, hT1⟩
 case round =>
  obtain ⟨j, rfl, hj, hW, hT⟩ := hrel; have hgw := hW.lt
  by_cases hlt : j < l.length
  ·have hji : (j : Int) < (l.length : Int) := by omega
   obtain ⟨b, off, rfl, hbB, hc⟩ := SeatsL.at_ (hT.rd hr hB) hlt; have HS := Lib.hid (fold_take Out.seat S2 l j hlt); have hle := fold_len Out.seat seatW Out.seat_len (l.take j) S2; have hle2 := sumL_take seatW l j hlt; have hs : Hid (rbenchOkAt l j = !(decide (l[j].who < 1) || decide (l[j].weight < 1) || (decide (0 < j) && decide (l[j].who ≤ (l.getD (j - 1) ⟨0, 0⟩).who)))) := by show _ = _; simp [rbenchOkAt, List.getElem?_eq_getElem hlt]
   have hs2 : Hid (allTo (rbenchOkAt l) (j + 1) = (allTo (rbenchOkAt l) j && rbenchOkAt l j)) := rfl; have hfr : ∀ S1 x, Out.seat S1 x = (S1.num x.who).num x.weight := fun _ _ => rfl
   rw [hfr] at HS; clear hfr; have c0 : wr.cell? ⟨b, off + j * 2, none⟩ = some (.int .i64 l[j].who) := hc 0 _ rfl; have c1 : wr.cell? ⟨b, off + j * 2 + 1, none⟩ = some (.int .i64 l[j].weight) := hc 1 _ rfl; have hlow := hT.rd hr hB; generalize hx : l[j] = x at *; have hX := Lib.hid hx; clear hx hc; generalize (l.take j).foldl Out.seat S2 = S3 at *; generalize allTo (rbenchOkAt l) j = ok at *; have hbn : (S3.need ok).b.length = S3.b.length := rfl; go_wp2_with fail; refine (rnumber_any _ _ g _ hW (by omega)).mono ?_; rintro e w3 ⟨rfl, hW3, hT3⟩; have c3 : w3.cell? ⟨b, off + j * 2 + 1, none⟩ = some (.int .i64 x.weight) := (hT3.low.cell (by simp; omega)).trans c1; rw [Out.need_num] at hW3; have l3 := S3.num_len x.who; generalize S3.num x.who = S4 at *; have hbn2 : (S4.need ok).b.length = S4.b.length := rfl; go_wp2_with fail; refine (rnumber_any _ _ g _ hW3 (by omega)).mono ?_; rintro e w4 ⟨rfl, hW4, hT4⟩; rw [Out.need_num] at hW4; generalize S4.num x.weight = S5 at *; have hT34 := hT3.trans hT4; have c4 : w4.drew.cell? ⟨b, off + j * 2, none⟩ = some (.int .i64 x.who) := (hT34.low.cell (by simp; omega)).trans c0; have c5 : w4.drew.cell? ⟨b, off + j * 2 + 1, none⟩ = some (.int .i64 x.weight) := (hT34.low.cell (by simp; omega)).trans c1; have hfin : ∀ (bad : Bool) (w5 : World), bad = (decide (x.who < 1) || decide (x.weight < 1) || (decide (0 < j) && decide (x.who ≤ (l.getD (j - 1) ⟨0, 0⟩).who))) → Ref w5 g ((S5.need ok).need (!bad)) → Ref w5 g (((l.take (j + 1)).foldl Out.seat S2).need (allTo (rbenchOkAt l) (j + 1))) := by
    intro bad w5 hbad hW5; refine hW5.eq ?_; rw [Out.need_need, hs2.out, hs.out, HS.out, hbad]
   have HF := Lib.hid hfin; clear hfin hs hs2
   by_cases h1 : x.who < 1
   ·go_wp2_with fail; refine wp_region_tail 33 (by kernel_rfl) (by kernel_rfl) ?_; simp only [List.take_succ_cons, List.take_zero, List.drop_succ_cons, List.drop_zero]
    repeat (go_big_quiet_step (fail))
    refine wpQuiet_nil ?_; go_wp2_with fail; refine (rneed_any _ _ g _ hW4.drew).mono ?_; rintro e w5 ⟨rfl, hW5, hT5⟩; go_wp2_with fail
    go_roundw
    case rel => exact ⟨j + 1, by go_num, by omega, HF.out _ _ (by grind) hW5, (hT.trans hT34).drew.trans hT5⟩
    case measure => simp [intOf]; omega
   have h1d : decide (x.who < 1) = false := decide_eq_false h1
   by_cases h2 : x.weight < 1
   ·go_wp2_with fail; refine wp_region_tail 33 (by kernel_rfl) (by kernel_rfl) ?_; simp only [List.take_succ_cons, List.take_zero, List.drop_succ_cons, List.drop_zero]
    repeat (go_big_quiet_step (fail))
    refine wpQuiet_nil ?_; go_wp2_with fail; refine (rneed_any _ _ g _ hW4.drew).mono ?_; rintro e w5 ⟨rfl, hW5, hT5⟩; go_wp2_with fail
    go_roundw
    case rel => exact ⟨j + 1, by go_num, by omega, HF.out _ _ (by grind) hW5, (hT.trans hT34).drew.trans hT5⟩
    case measure => simp [intOf]; omega
   have h2d : decide (x.weight < 1) = false := decide_eq_false h2
   by_cases h3 : 0 < j
   ·have h3i : (0 : Int) < (j : Int) := by omega
    have hj1 : j - 1 < l.length := by omega
    obtain ⟨b', off', e', _, hc'⟩ := SeatsL.at_ hlow hj1; simp only [Option.some.injEq, Addr.mk.injEq, and_true] at e'; obtain ⟨rfl, rfl⟩ := e'; have hp : (l.getD (j - 1) ⟨0, 0⟩).who = l[j - 1].who := by simp [List.getElem?_eq_getElem hj1]
    have c6 : w4.drew.cell? ⟨b, off + (j - 1) * 2, none⟩ = some (.int .i64 l[j - 1].who) := (hT34.low.cell (by simp; omega)).trans (hc' 0 _ rfl); clear hc'; rw [hp] at HF; generalize l[j - 1].who = y at *; have hw1 : IntKind.i64.wrap ((j : Int) - 1) = ((j - 1 : Nat) : Int) := by rw [IntWalk.i64_in _ (by omega)]; omega
    have hj1i : ((j - 1 : Nat) : Int) < (l.length : Int) := by omega
    go_wp2_with fail; refine wp_region_tail 33 (by kernel_rfl) (by kernel_rfl) ?_; simp only [List.take_succ_cons, List.take_zero, List.drop_succ_cons, List.drop_zero]
    repeat (go_big_quiet_step (fail))
    refine wpQuiet_nil ?_; go_wp2_with fail; refine (rneed_any _ _ g _ hW4.drew).mono ?_; rintro e w5 ⟨rfl, hW5, hT5⟩; go_wp2_with fail
    go_roundw
    case rel => exact ⟨j + 1, by go_num, by omega, HF.out _ _ (by grind) hW5, (hT.trans hT34).drew.trans hT5⟩
    case measure => simp [intOf]; omega
   ·have h3d : decide ((0 : Int) < (j : Int)) = false := decide_eq_false (by omega); go_wp2_with fail; refine wp_region_tail 33 (by kernel_rfl) (by kernel_rfl) ?_; simp only [List.take_succ_cons, List.take_zero, List.drop_succ_cons, List.drop_zero]
    repeat (go_big_quiet_step (fail))
    refine wpQuiet_nil ?_; go_wp2_with fail; refine (rneed_any _ _ g _ hW4.drew).mono ?_; rintro e w5 ⟨rfl, hW5, hT5⟩; go_wp2_with fail
    go_roundw
    case rel => exact ⟨j + 1, by go_num, by omega, HF.out _ _ (by grind) hW5, (hT.trans hT34).drew.trans hT5⟩
    case measure => simp [intOf]; omega
  ·have hji : ¬ (j : Int) < (l.length : Int) := by omega
   have hjl : j = l.length := by omega
   subst hjl; rw [List.take_of_length_le (Nat.le_refl _)] at hW; go_wp2
   go_end0
   exact ⟨rfl, hE.out _ hW, hT⟩
structure ResultD where
 c : Int
 u : Int
 v : Int
 notes : List NoteD
 na : Option Addr
 nc : Nat
def ResultD.val (x : ResultD) : Value := .agg #[.int .i64 x.c, .int .i64 x.u, .int .i64 x.v, .slice x.na x.notes.length x.nc]
structure ViewD where
 c : Int
 w : Int
 e : Int
 h : Int
 s : Int
 seats : List Seat
 sa : Option Addr
 sc : Nat
def ViewD.val (x : ViewD) : Value := .agg #[.int .i64 x.c, .int .i64 x.w, .int .i64 x.e, .int .i64 x.h, .int .u64 x.s, .slice x.sa x.seats.length x.sc]
def ViewD.ok (x : ViewD) : Prop := 0 ≤ x.s ∧ x.s < 18446744073709551616
structure GuiltD where
 a : VoteD
 b : VoteD
def GuiltD.cells (x : GuiltD) : List Value := [.int .i64 x.a.h, .int .i64 x.a.r, .int .i64 x.a.s, .bool x.a.has, .int .u64 x.a.b, .int .i64 x.a.f, .int .i64 x.b.h, .int .i64 x.b.r, .int .i64 x.b.s, .bool x.b.has, .int .u64 x.b.b, .int .i64 x.b.f]
def GuiltD.val (x : GuiltD) : Value := .agg #[.int .i64 x.a.h, .int .i64 x.a.r, .int .i64 x.a.s, .bool x.a.has, .int .u64 x.a.b, .int .i64 x.a.f, .int .i64 x.b.h, .int .i64 x.b.r, .int .i64 x.b.s, .bool x.b.has, .int .u64 x.b.b, .int .i64 x.b.f]
def GuiltD.ok (x : GuiltD) : Prop := x.a.ok ∧ x.b.ok
def Out.guilt (S : Out) (x : GuiltD) : Out := (S.vote x.a).vote x.b
structure HeaderD where
 c : Int
 h : Int
 p : Int
 t : Int
 g : Int
 s : Int
 r : Int
 b : Int
 o : Int
def HeaderD.cells (x : HeaderD) : List Value := [.int .i64 x.c, .int .i64 x.h, .int .u64 x.p, .int .u64 x.t, .int .u64 x.g, .int .u64 x.s, .int .u64 x.r, .int .u64 x.b, .int .i64 x.o]
def HeaderD.val (x : HeaderD) : Value := .agg #[.int .i64 x.c, .int .i64 x.h, .int .u64 x.p, .int .u64 x.t, .int .u64 x.g, .int .u64 x.s, .int .u64 x.r, .int .u64 x.b, .int .i64 x.o]
def HeaderD.ok (x : HeaderD) : Prop := (0 ≤ x.p ∧ x.p < 18446744073709551616) ∧ (0 ≤ x.t ∧ x.t < 18446744073709551616) ∧ (0 ≤ x.g ∧ x.g < 18446744073709551616) ∧ (0 ≤ x.s ∧ x.s < 18446744073709551616) ∧ (0 ≤ x.r ∧ x.r < 18446744073709551616) ∧ (0 ≤ x.b ∧ x.b < 18446744073709551616)
def headerM (_ : HeaderD) : Nat := 10
def Out.digs (S : Out) (l : List Int) : Out := l.foldl Out.dig S
def Out.header (S : Out) (x : HeaderD) : Out := ((S.nums [x.c, x.h]).digs [x.p, x.t, x.g, x.s, x.r, x.b]).num x.o
theorem Out.digs_len (S : Out) (l : List Int) : (S.digs l).b.length ≤ S.b.length + 8 * l.length := by
 induction l generalizing S with
 | nil => simp [Out.digs]
 | cons n l ih =>
  have h1 := ih (S.dig n); have h2 : (S.dig n).b.length = S.b.length + 8 := by simp [Out.dig, be_len]
  show ((S.dig n).digs l).b.length ≤ _; simp; omega
theorem Out.header_len (S : Out) (x : HeaderD) : (S.header x).b.length ≤ S.b.length + 66 := by
 have h1 := S.nums_len [x.c, x.h]; have h2 := (S.nums [x.c, x.h]).digs_len [x.p, x.t, x.g, x.s, x.r, x.b]; have h3 := ((S.nums [x.c, x.h]).digs [x.p, x.t, x.g, x.s, x.r, x.b]).num_len x.o; simp at h1 h2; unfold Out.header; omega
structure CertD where
 h : Int
 r : Int
 s : Int
 has : Bool
 b : Int
 froms : List Int
 fa : Option Addr
 fc : Nat
def CertD.cells (x : CertD) : List Value := [.int .i64 x.h, .int .i64 x.r, .int .i64 x.s, .bool x.has, .int .u64 x.b, .slice x.fa x.froms.length x.fc]
def CertD.val (x : CertD) : Value := .agg #[.int .i64 x.h, .int .i64 x.r, .int .i64 x.s, .bool x.has, .int .u64 x.b, .slice x.fa x.froms.length x.fc]
structure CertD.held (w : World) (B : Nat) (x : CertD) : Prop where
 dig : 0 ≤ x.b ∧ x.b < 18446744073709551616
 read : Ints w B x.fa x.froms
 short : x.froms.length ≤ maxLen
theorem CertD.held.below {w w' : World} {B : Nat} {x : CertD} (h : x.held w B) (hb : Below B w w') : x.held w' B := ⟨h.dig, Rd.below h.read hb, h.short⟩
def certM (x : CertD) : Nat := x.froms.length + 1 + 6
def prevI (l : List Int) (k : Nat) : Int := if k = 0 then 0 else l.getD (k - 1) 0
def fromOk (l : List Int) (k : Nat) : Bool := decide (prevI l k < l.getD k 0)
def certOk (x : CertD) : Bool := (decide (x.s = 1) || decide (x.s = 2)) && (x.has || decide (x.b = 0))
def numW (_ : Int) : Nat := 6
def Out.cert (S : Out) (x : CertD) : Out := ((((((S.nums [x.h, x.r, x.s]).flag x.has).dig x.b).list x.froms 7 Out.num).need (certOk x)).need (allTo (fromOk x.froms) x.froms.length))
theorem Out.num_lenW (S : Out) (x : Int) : (S.num x).b.length ≤ S.b.length + numW x := S.num_len x
theorem Out.cert_len (S : Out) (x : CertD) : (S.cert x).b.length ≤ S.b.length + 40 * certM x := by
 have h1 := S.nums_len [x.h, x.r, x.s]; have h2 := list_len Out.num numW Out.num_lenW x.froms 7 (((S.nums [x.h, x.r, x.s]).flag x.has).dig x.b); rw [show sumL numW x.froms = 6 * x.froms.length from sumL_const 6 x.froms] at h2; simp [Out.cert, Out.need, Out.flag, Out.dig, be_len, certM] at h1 h2 ⊢
 omega
theorem Out.turn_len (S : Out) (x : TurnD) : (S.turn x).b.length ≤ S.b.length + 14 := by
 have := S.num_len x.p; simp [Out.turn, Out.lim, Out.dig, be_len]; omega
def turnM (_ : TurnD) : Nat := 3
def turnW (_ : TurnD) : Nat := 14
abbrev TurnsL (w : World) (B : Nat) (A : Option Addr) (l : List TurnD) : Prop := Lay 2 TurnD.cells w B A l
theorem TurnsL.at_ {w : World} {B : Nat} {A : Option Addr} {l : List TurnD} (h : TurnsL w B A l) {k : Nat} (hk : k < l.length) :
  ∃ b off, A = some ⟨b, off, none⟩ ∧ b < B ∧ ∀ j u, (l[k].cells)[j]? = some u → w.cell? ⟨b, off + k * 2 + j, none⟩ = some u := Lay.at_ (n := 2) (fun _ => rfl) (by omega) h hk
structure ProofD where
 turns : List TurnD
 ta : Option Addr
 tc : Nat
 leaf : Bool
 key : List UInt8
 value : List UInt8
def ProofD.cells (x : ProofD) : List Value := [.slice x.ta x.turns.length x.tc, .bool x.leaf, .string (bs x.key), .string (bs x.value)]
def ProofD.val (x : ProofD) : Value := .agg #[.slice x.ta x.turns.length x.tc, .bool x.leaf, .string (bs x.key), .string (bs x.value)]
structure ProofD.held (w : World) (B : Nat) (x : ProofD) : Prop where
 read : TurnsL w B x.ta x.turns
 short : x.turns.length ≤ maxLen
 digs : ∀ t ∈ x.turns, t.ok
theorem ProofD.held.below {w w' : World} {B : Nat} {x : ProofD} (h : x.held w B) (hb : Below B w w') : x.held w' B := ⟨Rd.below h.read hb, h.short, h.digs⟩
def proofM (x : ProofD) : Nat := sumL turnM x.turns + 1 + 1 + (x.key.length + 1) + (x.value.length + 1) + 1
def prevT (l : List TurnD) (k : Nat) : Int := if k = 0 then -1 else (l.getD (k - 1) ⟨0, 0⟩).p
def turnOkAt (l : List TurnD) (k : Nat) : Bool := decide (prevT l k < (l.getD k ⟨0, 0⟩).p)
def emp (l : List UInt8) : Bool := l.isEmpty
def proofOk (x : ProofD) : Bool := (x.leaf && !emp x.value) || (!x.leaf && decide (x.turns.length = 0) && emp x.key && emp x.value)
def Out.proof (S : Out) (x : ProofD) : Out := (((((S.list x.turns 288 Out.turn).flag x.leaf).text x.key 32).text x.value 4096).need (allTo (turnOkAt x.turns) x.turns.length)).need (proofOk x)
theorem Out.text_len (S : Out) (s : List UInt8) (m : Int) : (S.text s m).b.length ≤ S.b.length + 6 + s.length := by
 have h1 := (S.lim s.length m).num_len s.length; have h2 : (S.lim s.length m).b.length = S.b.length := rfl; simp [Out.text, Out.raw]; omega
theorem Out.turn_lenW (S : Out) (x : TurnD) : (S.turn x).b.length ≤ S.b.length + turnW x := S.turn_len x
theorem turns_M (l : List TurnD) : sumL turnM l = 3 * l.length := sumL_const 3 l
theorem turns_W (l : List TurnD) : sumL turnW l = 14 * l.length := sumL_const 14 l
theorem Out.proof_len (S : Out) (x : ProofD) : (S.proof x).b.length ≤ S.b.length + 40 * proofM x := by
 have h1 := list_len Out.turn turnW Out.turn_lenW x.turns 288 S; have h2 := ((S.list x.turns 288 Out.turn).flag x.leaf).text_len x.key 32; have h3 := (((S.list x.turns 288 Out.turn).flag x.leaf).text x.key 32).text_len x.value 4096; have h4 : ((S.list x.turns 288 Out.turn).flag x.leaf).b.length = (S.list x.turns 288 Out.turn).b.length + 1 := by simp [Out.flag]
 rw [turns_W] at h1; simp only [proofM, turns_M]; show ((((S.list x.turns 288 Out.turn).flag x.leaf).text x.key 32).text x.value 4096).b.length ≤ _; omega
structure SightD where
 header : HeaderD
 cert : CertD
 seats : List Seat
 sa : Option Addr
 sc : Nat
def SightD.cells (x : SightD) : List Value := [.int .i64 x.header.c, .int .i64 x.header.h, .int .u64 x.header.p, .int .u64 x.header.t, .int .u64 x.header.g, .int .u64 x.header.s, .int .u64 x.header.r, .int .u64 x.header.b, .int .i64 x.header.o, .int .i64 x.cert.h, .int .i64 x.cert.r, .int .i64 x.cert.s, .bool x.cert.has, .int .u64 x.cert.b, .slice x.cert.fa x.cert.froms.length x.cert.fc, .slice x.sa x.seats.length x.sc]
def SightD.val (x : SightD) : Value := .agg #[.int .i64 x.header.c, .int .i64 x.header.h, .int .u64 x.header.p, .int .u64 x.header.t, .int .u64 x.header.g, .int .u64 x.header.s, .int .u64 x.header.r, .int .u64 x.header.b, .int .i64 x.header.o, .int .i64 x.cert.h, .int .i64 x.cert.r, .int .i64 x.cert.s, .bool x.cert.has, .int .u64 x.cert.b, .slice x.cert.fa x.cert.froms.length x.cert.fc, .slice x.sa x.seats.length x.sc]
structure SightD.held (w : World) (B : Nat) (x : SightD) : Prop where
 header : x.header.ok
 cert : x.cert.held w B
 read : SeatsL w B x.sa x.seats
 short : x.seats.length ≤ maxLen
theorem SightD.held.below {w w' : World} {B : Nat} {x : SightD} (h : x.held w B) (hb : Below B w w') : x.held w' B := ⟨h.header, h.cert.below hb, Rd.below h.read hb, h.short⟩
def sightM (x : SightD) : Nat := headerM x.header + certM x.cert + (3 * x.seats.length + 1) + 1
def sightW (x : SightD) : Nat := 40 * sightM x
def Out.sight (S : Out) (x : SightD) : Out := ((S.header x.header).cert x.cert).bench x.seats
theorem Out.sight_len (S : Out) (x : SightD) : (S.sight x).b.length ≤ S.b.length + sightW x := by
 have h1 := S.header_len x.header; have h2 := (S.header x.header).cert_len x.cert; have h3 := ((S.header x.header).cert x.cert).bench_len x.seats; unfold Out.sight sightW sightM headerM; omega
def proofW (x : ProofD) : Nat := 40 * proofM x
theorem Out.proof_lenW (S : Out) (x : ProofD) : (S.proof x).b.length ≤ S.b.length + proofW x := S.proof_len x
abbrev SightsL (w : World) (B : Nat) (A : Option Addr) (l : List SightD) : Prop := Lay 16 SightD.cells w B A l
theorem SightsL.at_ {w : World} {B : Nat} {A : Option Addr} {l : List SightD} (h : SightsL w B A l) {k : Nat} (hk : k < l.length) :
  ∃ b off, A = some ⟨b, off, none⟩ ∧ b < B ∧ ∀ j u, (l[k].cells)[j]? = some u → w.cell? ⟨b, off + k * 16 + j, none⟩ = some u := Lay.at_ (n := 16) (fun _ => rfl) (by omega) h hk
abbrev ProofsL (w : World) (B : Nat) (A : Option Addr) (l : List ProofD) : Prop := Lay 4 ProofD.cells w B A l
theorem ProofsL.at_ {w : World} {B : Nat} {A : Option Addr} {l : List ProofD} (h : ProofsL w B A l) {k : Nat} (hk : k < l.length) :
  ∃ b off, A = some ⟨b, off, none⟩ ∧ b < B ∧ ∀ j u, (l[k].cells)[j]? = some u → w.cell? ⟨b, off + k * 4 + j, none⟩ = some u := Lay.at_ (n := 4) (fun _ => rfl) (by omega) h hk
structure TxD where
 k : Int
 f : Int
 n : Int
 p : Int
 l : Int
 t : Int
 a : Int
 text : List UInt8
 args : List Int
 aa : Option Addr
 ac : Nat
 sights : List SightD
 sa : Option Addr
 sc : Nat
 proofs : List ProofD
 pa : Option Addr
 pc : Nat
def TxD.cells (x : TxD) : List Value := [.int .i64 x.k, .int .i64 x.f, .int .i64 x.n, .int .i64 x.p, .int .i64 x.l, .int .i64 x.t, .int .i64 x.a, .string (bs x.text), .slice x.aa x.args.length x.ac, .slice x.sa x.sights.length x.sc, .slice x.pa x.proofs.length x.pc]
def TxD.val (x : TxD) : Value := .agg #[.int .i64 x.k, .int .i64 x.f, .int .i64 x.n, .int .i64 x.p, .int .i64 x.l, .int .i64 x.t, .int .i64 x.a, .string (bs x.text), .slice x.aa x.args.length x.ac, .slice x.sa x.sights.length x.sc, .slice x.pa x.proofs.length x.pc]
structure TxD.held (w : World) (B : Nat) (x : TxD) : Prop where
 args : Ints w B x.aa x.args
 sights : SightsL w B x.sa x.sights
 proofs : ProofsL w B x.pa x.proofs
 short : x.args.length ≤ maxLen ∧ x.sights.length ≤ maxLen ∧ x.proofs.length ≤ maxLen
 sight : ∀ s ∈ x.sights, s.held w B
 proof : ∀ s ∈ x.proofs, s.held w B
theorem TxD.held.below {w w' : World} {B : Nat} {x : TxD} (h : x.held w B) (hb : Below B w w') : x.held w' B :=
 ⟨Rd.below h.args hb, Rd.below h.sights hb, Rd.below h.proofs hb, h.short, fun s hs => (h.sight s hs).below hb, fun s hs => (h.proof s hs).below hb⟩
def txM (x : TxD) : Nat := 7 + (x.text.length + 1) + (x.args.length + 1) + (sumL sightM x.sights + 1) + (sumL proofM x.proofs + 1) + 1
def toF (k : Int) : Bool := decide (k = 1) || decide (k = 3) || decide (k = 7) || decide (k = 8)
def amountF (k : Int) : Bool := toF k || decide (k = 2) || decide (k = 4) || decide (k = 5)
def textF (k : Int) : Bool := decide (k = 2) || decide (k = 3)
def argsF (k : Int) : Bool := decide (k = 3)
def sightF (k : Int) : Bool := decide (k = 9)
def proofF (k : Int) : Bool := decide (k = 10)
def txOk1 (x : TxD) : Bool := decide (1 ≤ x.k) && decide (x.k ≤ 10) && decide (1 ≤ x.f) && (toF x.k == decide (1 ≤ x.t))
def txOk2 (x : TxD) : Bool := (amountF x.k || decide (x.a = 0)) && (textF x.k || emp x.text) && (argsF x.k || decide (x.args.length = 0))
def txOk3 (x : TxD) : Bool := (sightF x.k == decide (x.sights.length = 1)) && (proofF x.k == decide (x.proofs.length = 1))
def Out.tx (S : Out) (x : TxD) : Out := (((((((S.nums [x.k, x.f, x.n, x.p, x.l, x.t, x.a]).text x.text 2048).list x.args 8 Out.num).list x.sights 1 Out.sight).list x.proofs 1 Out.proof).need (txOk1 x)).need (txOk2 x)).need (txOk3 x)
theorem sights_W (l : List SightD) : sumL sightW l ≤ 40 * sumL sightM l := by
 induction l with
 | nil => simp [sumL]
 | cons x l ih => rw [sumL_cons, sumL_cons, Nat.mul_add]; have : sightW x = 40 * sightM x := rfl; omega
theorem proofs_W (l : List ProofD) : sumL proofW l ≤ 40 * sumL proofM l := by
 induction l with
 | nil => simp [sumL]
 | cons x l ih => rw [sumL_cons, sumL_cons, Nat.mul_add]; have : proofW x = 40 * proofM x := rfl; omega
theorem Out.tx_len (S : Out) (x : TxD) : (S.tx x).b.length ≤ S.b.length + 40 * txM x := by
 have h1 := S.nums_len [x.k, x.f, x.n, x.p, x.l, x.t, x.a]; have h2 := (S.nums [x.k, x.f, x.n, x.p, x.l, x.t, x.a]).text_len x.text 2048; have h3 := list_len Out.num numW Out.num_lenW x.args 8 ((S.nums [x.k, x.f, x.n, x.p, x.l, x.t, x.a]).text x.text 2048); have h4 := list_len Out.sight sightW Out.sight_len x.sights 1 (((S.nums [x.k, x.f, x.n, x.p, x.l, x.t, x.a]).text x.text 2048).list x.args 8 Out.num); have h5 := list_len Out.proof proofW Out.proof_lenW x.proofs 1 ((((S.nums [x.k, x.f, x.n, x.p, x.l, x.t, x.a]).text x.text 2048).list x.args 8 Out.num).list x.sights 1 Out.sight); rw [show sumL numW x.args = 6 * x.args.length from sumL_const 6 x.args] at h3; have h6 := sights_W x.sights; have h7 := proofs_W x.proofs; simp at h1; show (((((S.nums [x.k, x.f, x.n, x.p, x.l, x.t, x.a]).text x.text 2048).list x.args 8 Out.num).list x.sights 1 Out.sight).list x.proofs 1 Out.proof).b.length ≤ _; unfold txM; omega
abbrev TxsL (w : World) (B : Nat) (A : Option Addr) (l : List TxD) : Prop := Lay 11 TxD.cells w B A l
theorem TxsL.at_ {w : World} {B : Nat} {A : Option Addr} {l : List TxD} (h : TxsL w B A l) {k : Nat} (hk : k < l.length) :
  ∃ b off, A = some ⟨b, off, none⟩ ∧ b < B ∧ ∀ j u, (l[k].cells)[j]? = some u → w.cell? ⟨b, off + k * 11 + j, none⟩ = some u := Lay.at_ (n := 11) (fun _ => rfl) (by omega) h hk
set_option maxRecDepth 100000 in
set_option maxHeartbeats 400000 in
theorem wguilt_any (x : GuiltD) (hx : x.ok) (w : World) (g : Nat) (S : Out) (h : Wrt w g S) (hl : S.b.length + 400 ≤ 70368744177000) :
  Calls Tryz.prog 109 #[.pointer (some ⟨g, 0, none⟩), x.val] w fun e w' => e = .returned (.tuple #[]) ∧ Wrt w' g (S.guilt x) ∧ Turned w w' g := by
 have hgt := h.lt; have hE : Hid (S.guilt x = (S.vote x.a).vote x.b) := rfl; obtain ⟨⟨a1, a2, a3, a4, a5, a6⟩, ⟨b1, b2, b3, b4, b5, b6⟩⟩ := x; obtain ⟨⟨hx0, hx1⟩, ⟨hx2, hx3⟩⟩ := hx; dsimp only at hx0 hx1 hx2 hx3; dsimp only [GuiltD.val]; go_enter Tryz.func109, Tryz.ntmps109; go_wp2_with fail; refine (wvote_any ⟨a1, a2, a3, a4, a5, a6⟩ ⟨hx0, hx1⟩ _ g _ (h.alloc _) (by omega)).mono ?_; rintro e w1 ⟨rfl, hW1, hC1⟩; have hB1 := hC1.blk (Blk.new _ _ _) (by omega) (by decide); have hT1 := ((Turned.refl w g).alloc (by omega) _).trans hC1; have hlt1 := hB1.lt; have hgl1 := hW1.lt; have ll1 := S.vote_len ⟨a1, a2, a3, a4, a5, a6⟩; generalize S.vote ⟨a1, a2, a3, a4, a5, a6⟩ = S1 at *; have c1_0 := hB1.c 0 rfl; have c1_1 := hB1.c 1 rfl; have c1_2 := hB1.c 2 rfl; have c1_3 := hB1.c 3 rfl; have c1_4 := hB1.c 4 rfl; have c1_5 := hB1.c 5 rfl; have c1_6 := hB1.c 6 rfl; have c1_7 := hB1.c 7 rfl; have c1_8 := hB1.c 8 rfl; have c1_9 := hB1.c 9 rfl; have c1_10 := hB1.c 10 rfl; have c1_11 := hB1.c 11 rfl; go_wp2_with fail; refine (wvote_any ⟨b1, b2, b3, b4, b5, b6⟩ ⟨hx2, hx3⟩ _ g _ hW1 (by omega)).mono ?_; rintro e w2 ⟨rfl, hW2, hC2⟩; have hB2 := hC2.blk hB1 (by omega) (by decide); have hT2 := hT1.trans hC2; have hlt2 := hB2.lt; have hgl2 := hW2.lt; generalize S1.vote ⟨b1, b2, b3, b4, b5, b6⟩ = S2 at *; go_wp2_with fail
 go_end0
 exact ⟨rfl, Wrt.eq hW2 (by rw [hE.out] <;> (first | rfl | ((try rw [Out.need_need]); congr 1; grind))), hT2⟩
set_option maxRecDepth 100000 in
theorem conv_nil (w : World) : Sem.run Tryz.prog (convert 110 9 (.slice none 0 0)) w = .ok (.string (bs [])) w := by kernel_rfl
theorem strOfNums_u8 (l : List UInt8) : strOfNums (l.map fun c => (c.toNat : Int)) = bs l := by
 simp [strOfNums, bs, Function.comp_def]
set_option maxRecDepth 100000 in
theorem conv_own (w : World) {base : Nat} {v : Value} {l : List UInt8} (ho : w.ownsRow base 5 1 v l.length (u8s l)) : Sem.run Tryz.prog (convert 110 9 v) w = .ok (.string (bs l)) w := by
 by_cases h0 : v = .slice none 0 0
 ·subst h0; have hl : l = [] := by
   rcases ho.2 with ⟨_, h⟩ | ⟨g, cap, cur, e, _⟩
   ·exact List.eq_nil_of_length_eq_zero h
   ·cases e
  subst hl; exact conv_nil w
 ·rcases ho.2 with ⟨h, _⟩ | ⟨g, cap, cur, rfl, hb, hh, hn, hc, hs, ht⟩
  ·exact absurd h h0
  ·have := run_convert_bytes_arg (P := Tryz.prog) w 110 5 Tryz.underlying110 Tryz.underlying5 g 0 l.length cap (l.map fun c => (c.toNat : Int)) (by simp) (fun i hi => by
    rw [Nat.zero_add, cell_of_row w g i cur 5 (0, 0) hh]; have h1 : cur.toList[i]? = (u8s l)[i]? := by rw [← ht, List.getElem?_take, if_pos (by omega)]
    rw [show cur[i]? = cur.toList[i]? by simp, h1]; simp [u8s, List.getElem?_eq_getElem hi, List.getD, List.getElem?_map]) 9 Tryz.underlying9
   rw [strOfNums_u8] at this; exact this
def Out.rs (S : Out) : List UInt8 := if S.far then [] else if S.odd then [] else S.b
def Out.re (S : Out) : Int := if S.far then 3 else if S.odd then 2 else 0
theorem Wrt.new (w : World) : Wrt (w.alloc (.cells #[.slice none 0 0, .bool false, .bool false] 203)) w.heap.size Out.empty :=
 ⟨.slice none 0 0, Blk.new _ _ _, World.ownsRow_nil _ _ _ _⟩
theorem Ref.new (w : World) : Ref (w.alloc (.cells #[.string ⟨#[]⟩, .bool false, .bool false] 126)) w.heap.size Out.empty :=
 ⟨[], false, Blk.new _ _ _, Nat.le_refl _, fun _ => ⟨rfl, rfl⟩⟩
set_option maxRecDepth 100000 in
theorem rout_any (w : World) (g : Nat) (S : Out) (h : Ref w g S) :
  Calls Tryz.prog 70 #[.pointer (some ⟨g, 0, none⟩)] w fun e w' => e = .returned (.tuple #[.string (bs S.rs), .int .i64 S.re]) ∧ w = w' := by
 obtain ⟨l, o, hb, hln, ho⟩ := h; have hgt := hb.lt; have c0 := hb.c 0 rfl; have c1 := hb.c 1 rfl; have c2 := hb.c 2 rfl; obtain ⟨b, far, odd⟩ := S; dsimp only at *; cases far
 ·obtain ⟨rfl, rfl⟩ := ho rfl; clear ho; cases o
  ·go_enter Tryz.func70, Tryz.ntmps70; go_wp2_with fail
   go_ret2
   exact ⟨rfl, rfl⟩
  ·go_enter Tryz.func70, Tryz.ntmps70; go_wp2_with fail
   go_ret2
   exact ⟨rfl, rfl⟩
 ·clear ho; go_enter Tryz.func70, Tryz.ntmps70; go_wp2_with fail
  go_ret2
  exact ⟨rfl, rfl⟩
set_option maxRecDepth 100000 in
set_option maxHeartbeats 1000000 in
theorem putsInt_any (l : List Int) (A : Option Addr) (c B : Nat) (m : Int) (w : World) (g : Nat) (S : Out) (h : Wrt w g S) (hr : Ints w B A l) (hB : B ≤ g) (hl : S.b.length + 6 + sumL numW l ≤ 60000000000000) (hm : l.length ≤ maxLen) :
  Calls Tryz.prog 162 #[.pointer (some ⟨g, 0, none⟩), .slice A l.length c, .int .i64 m, .func (.func 56) #[] #[]] w fun e w' => e = .returned (.tuple #[]) ∧ Wrt w' g (S.list l m Out.num) ∧ Turned w w' g := by
 unfold maxLen at hm; have hgt := h.lt; have hn := ((S.lim l.length m).num_len l.length)
 have hb0 : (S.lim l.length m).b.length = S.b.length := rfl; have hE : Hid (S.list l m Out.num = l.foldl Out.num ((S.lim l.length m).num l.length)) := rfl; go_enter Tryz.func162, Tryz.ntmps162; go_wp2_with fail; refine (limited_any _ _ _ g _ h).mono ?_; rintro e w1 ⟨rfl, hW1, hT1⟩; go_wp2_with fail; refine (number_any _ _ g _ hW1 (by omega)).mono ?_; rintro e w2 ⟨rfl, hW2, hT2⟩; have hT02 := hT1.trans hT2; clear hT1 hT2 hW1; generalize (S.lim l.length m).num l.length = S2 at *; go_wp2_with fail
 go_loopw [9, 21] (fun _ i wr => ∃ j : Nat, i = .int .i64 (j : Int) ∧ j ≤ l.length ∧ Wrt wr g ((l.take j).foldl Out.num S2) ∧ Turned w wr g) (fun _ i _ => l.length - (intOf i).toNat)
 case atStart => exact ⟨0, rfl, by omega, by simpa using hW2, hT02⟩
 case round =>
  obtain ⟨j, rfl, hj, hW, hT⟩ := hrel; have hgw := hW.lt
  by_cases hlt : j < l.length
  ·have hji : (j : Int) < (l.length : Int) := by omega
   obtain ⟨b, off, rfl, hbB, hc⟩ := Ints.at_ (hT.rd hr hB) hlt; have HS := Lib.hid (fold_take Out.num S2 l j hlt); have hle := fold_len Out.num numW Out.num_lenW (l.take j) S2; have hle2 := sumL_take numW l j hlt; generalize hxx : l[j] = x at *; clear hxx; have c0 : wr.cell? ⟨b, off + j, none⟩ = some (.int .i64 x) := hc; clear hc; go_wp2_with fail; refine (number_any x _ g _ hW (by unfold numW at *; omega)).mono ?_; rintro e w3 ⟨rfl, hW3, hT3⟩; go_wp2_with fail
   go_roundw
   case rel => exact ⟨j + 1, by go_num, by omega, by rw [HS.out]; exact hW3, hT.trans hT3⟩
   case measure => simp [intOf]; omega
  ·have hji : ¬ (j : Int) < (l.length : Int) := by omega
   go_wp2
   go_end0
   rw [List.take_of_length_le (by omega)] at hW; exact ⟨rfl, by rw [hE.out]; exact hW, hT⟩
set_option maxRecDepth 100000 in
set_option maxHeartbeats 1000000 in
theorem putsTurn_any (l : List TurnD) (A : Option Addr) (c B : Nat) (m : Int) (w : World) (g : Nat) (S : Out) (h : Wrt w g S) (hr : TurnsL w B A l) (hB : B ≤ g) (hd : ∀ x ∈ l, x.ok) (hl : S.b.length + 6 + sumL turnW l ≤ 60000000000000) (hm : l.length ≤ maxLen) :
  Calls Tryz.prog 174 #[.pointer (some ⟨g, 0, none⟩), .slice A l.length c, .int .i64 m, .func (.func 175) #[] #[]] w fun e w' => e = .returned (.tuple #[]) ∧ Wrt w' g (S.list l m Out.turn) ∧ Turned w w' g := by
 unfold maxLen at hm; have hgt := h.lt; have hn := ((S.lim l.length m).num_len l.length)
 have hb0 : (S.lim l.length m).b.length = S.b.length := rfl; have hE : Hid (S.list l m Out.turn = l.foldl Out.turn ((S.lim l.length m).num l.length)) := rfl; go_enter Tryz.func174, Tryz.ntmps174; go_wp2_with fail; refine (limited_any _ _ _ g _ h).mono ?_; rintro e w1 ⟨rfl, hW1, hT1⟩; go_wp2_with fail; refine (number_any _ _ g _ hW1 (by omega)).mono ?_; rintro e w2 ⟨rfl, hW2, hT2⟩; have hT02 := hT1.trans hT2; clear hT1 hT2 hW1; generalize (S.lim l.length m).num l.length = S2 at *; go_wp2_with fail
 go_loopw [9, 21] (fun _ i wr => ∃ j : Nat, i = .int .i64 (j : Int) ∧ j ≤ l.length ∧ Wrt wr g ((l.take j).foldl Out.turn S2) ∧ Turned w wr g) (fun _ i _ => l.length - (intOf i).toNat)
 case atStart => exact ⟨0, rfl, by omega, by simpa using hW2, hT02⟩
 case round =>
  obtain ⟨j, rfl, hj, hW, hT⟩ := hrel; have hgw := hW.lt
  by_cases hlt : j < l.length
  ·have hji : (j : Int) < (l.length : Int) := by omega
   obtain ⟨b, off, rfl, hbB, hc⟩ := TurnsL.at_ (hT.rd hr hB) hlt; have HS := Lib.hid (fold_take Out.turn S2 l j hlt); have hle := fold_len Out.turn turnW Out.turn_lenW (l.take j) S2; have hle2 := sumL_take turnW l j hlt; have hx := (hd l[j] (List.getElem_mem hlt))
   generalize hxx : l[j] = x at *; clear hxx; have c0 : wr.cell? ⟨b, off + j * 2, none⟩ = some (.int .i64 x.p) := hc 0 _ rfl; have c1 : wr.cell? ⟨b, off + j * 2 + 1, none⟩ = some (.int .u64 x.d) := hc 1 _ rfl; clear hc; go_wp2_with fail; refine (wturn_any x hx _ g _ (hW.alloc _) (by unfold turnW at *; omega)).mono ?_; rintro e w3 ⟨rfl, hW3, hT3⟩; go_wp2_with fail
   go_roundw
   case rel => exact ⟨j + 1, by go_num, by omega, by rw [HS.out]; exact hW3, (hT.alloc (Nat.le_of_lt hgw) _).trans hT3⟩
   case measure => simp [intOf]; omega
  ·have hji : ¬ (j : Int) < (l.length : Int) := by omega
   go_wp2
   go_end0
   rw [List.take_of_length_le (by omega)] at hW; exact ⟨rfl, by rw [hE.out]; exact hW, hT⟩
set_option maxRecDepth 100000 in
set_option maxHeartbeats 1000000 in
theorem wcert_any (x : CertD) (B : Nat) (w : World) (g : Nat) (S : Out) (h : Wrt w g S) (hl : S.b.length + 40 * certM x ≤ 59000000000000) (hx : x.held w B) (hB : B ≤ g) :
  Calls Tryz.prog 79 #[.pointer (some ⟨g, 0, none⟩), x.val] w fun e w' => e = .returned (.tuple #[]) ∧ Wrt w' g (S.cert x) ∧ Turned w w' g := by
 have hgt := h.lt; have hE : Hid (S.cert x = ((((((S.nums [x.h, x.r, x.s]).flag x.has).dig x.b).list x.froms 7 Out.num).need (decide (x.s = 1) || decide (x.s = 2))).need (x.has || decide (x.b = 0))).need (allTo (fromOk x.froms) x.froms.length)) := by show _ = _; rw [Out.need_need (_ : Out) (decide (x.s = 1) || decide (x.s = 2))]; rfl
 simp only [certM] at hl; obtain ⟨x1, x2, x3, x4, x5, x6, x6a, x6c⟩ := x; dsimp only at hl hx; dsimp only [CertD.val]; obtain ⟨⟨hx0, hx1⟩, hxr, hxs⟩ := hx; dsimp only at hx0 hx1 hxr hxs; go_enter Tryz.func79, Tryz.ntmps79; go_wp2_with fail; generalize Value.agg #[.int .i64 x1, .int .i64 x2, .int .i64 x3, .bool x4, .int .u64 x5, .slice x6a x6.length x6c] = V; have ll1 := S.nums_len [x1, x2, x3]; simp only [List.length_cons, List.length_nil] at ll1; refine (numbers_any [x1, x2, x3] 3 _ g (w.heap.size + 1) S ((h.alloc _).alloc _) (by have hN := Blk.new (w.alloc (.cells #[.int .i64 x1, .int .i64 x2, .int .i64 x3, .bool x4, .int .u64 x5, .slice x6a x6.length x6c] 62)) 3 #[.int .i64 x1, .int .i64 x2, .int .i64 x3]; simpa using hN) (by omega) (by simp; omega)).mono ?_; rintro e w1 ⟨rfl, hW1, hC1⟩; have hB1 := hC1.blk ((Blk.new _ _ _).alloc _) (by omega) (by decide); have hT1 := (((Turned.refl w g).alloc (by omega) _).alloc (by simp; omega) _).trans hC1; have hlt1 := hB1.lt; have hgl1 := hW1.lt; generalize S.nums [x1, x2, x3] = S1 at *; have c1_0 := hB1.c 0 rfl; have c1_1 := hB1.c 1 rfl; have c1_2 := hB1.c 2 rfl; have c1_3 := hB1.c 3 rfl; have c1_4 := hB1.c 4 rfl; have c1_5 := hB1.c 5 rfl; go_wp2_with fail; refine (flag_any _ _ g _ hW1 (by omega)).mono ?_; rintro e w2 ⟨rfl, hW2, hC2⟩; have hB2 := hC2.blk hB1 (by omega) (by decide); have hT2 := hT1.trans hC2; have hlt2 := hB2.lt; have hgl2 := hW2.lt; have ll2 := (by simp [Out.flag] : (S1.flag x4).b.length ≤ S1.b.length + 1)
 generalize S1.flag x4 = S2 at *; have c2_0 := hB2.c 0 rfl; have c2_1 := hB2.c 1 rfl; have c2_2 := hB2.c 2 rfl; have c2_3 := hB2.c 3 rfl; have c2_4 := hB2.c 4 rfl; have c2_5 := hB2.c 5 rfl; go_wp2_with fail; refine (digest_any _ _ g _ hW2 (by omega) (by omega) (by omega)).mono ?_; rintro e w3 ⟨rfl, hW3, hC3⟩; have hB3 := hC3.blk hB2 (by omega) (by decide); have hT3 := hT2.trans hC3; have hlt3 := hB3.lt; have hgl3 := hW3.lt; have ll3 := (by simp [Out.dig, be_len] : (S2.dig x5).b.length ≤ S2.b.length + 8)
 generalize S2.dig x5 = S3 at *; have c3_0 := hB3.c 0 rfl; have c3_1 := hB3.c 1 rfl; have c3_2 := hB3.c 2 rfl; have c3_3 := hB3.c 3 rfl; have c3_4 := hB3.c 4 rfl; have c3_5 := hB3.c 5 rfl; have hsw : sumL numW x6 = 6 * x6.length := sumL_const 6 x6; go_wp2_with fail; refine (putsInt_any x6 x6a x6c B 7 _ g _ hW3 (hT3.rd hxr hB) hB (by omega) hxs).mono ?_; rintro e w4 ⟨rfl, hW4, hC4⟩; have hB4 := hC4.blk hB3 (by omega) (by decide); have hT4 := hT3.trans hC4; have hlt4 := hB4.lt; have hgl4 := hW4.lt; have ll4 := list_len Out.num numW Out.num_lenW x6 7 S3; generalize S3.list x6 7 Out.num = S4 at *; have c4_0 := hB4.c 0 rfl; have c4_1 := hB4.c 1 rfl; have c4_2 := hB4.c 2 rfl; have c4_3 := hB4.c 3 rfl; have c4_4 := hB4.c 4 rfl; have c4_5 := hB4.c 5 rfl
 go_upto_region 5 with fail
 go_cut [37] (fun x wc => x = .tuple #[] ∧ Wrt wc g (S4.need (decide (x3 = 1) || decide (x3 = 2))) ∧ Blk wc w.heap.size 62 #[.int .i64 x1, .int .i64 x2, .int .i64 x3, .bool x4, .int .u64 x5, .slice x6a x6.length x6c] ∧ Turned w wc g)
 case first =>
  go_wp2_with fail
  all_goals
   refine (need_any _ _ g _ hW4).mono ?_; rintro e w5 ⟨rfl, hW5, hC5⟩; go_wp2_with fail
   go_meet
   exact ⟨rfl, hW5.eq (by congr 1; first | rfl | grind), hC5.blk hB4 (by omega) (by decide), hT4.trans hC5⟩
 case rest =>
  obtain ⟨w5, rfl⟩ : ∃ x : World, x = wc := ⟨_, rfl⟩
  obtain ⟨rfl, hW5, hB5, hT5⟩ := hcut; have hlt5 := hB5.lt; have hgl5 := hW5.lt; have ll5 : (S4.need (decide (x3 = 1) || decide (x3 = 2))).b.length = S4.b.length := rfl; generalize S4.need (decide (x3 = 1) || decide (x3 = 2)) = S5 at *; have c5_0 := hB5.c 0 rfl; have c5_1 := hB5.c 1 rfl; have c5_2 := hB5.c 2 rfl; have c5_3 := hB5.c 3 rfl; have c5_4 := hB5.c 4 rfl; have c5_5 := hB5.c 5 rfl
  go_upto_region 6 with fail
  go_cut [46] (fun x wc => x = .tuple #[] ∧ Wrt wc g (S5.need (x4 || decide (x5 = 0))) ∧ Blk wc w.heap.size 62 #[.int .i64 x1, .int .i64 x2, .int .i64 x3, .bool x4, .int .u64 x5, .slice x6a x6.length x6c] ∧ Turned w wc g)
  case first =>
   go_wp2_with fail
   all_goals
    refine (need_any _ _ g _ hW5).mono ?_; rintro e w6 ⟨rfl, hW6, hC6⟩; go_wp2_with fail
    go_meet
    exact ⟨rfl, hW6.eq (by congr 1; first | rfl | grind), hC6.blk hB5 (by omega) (by decide), hT5.trans hC6⟩
  case rest =>
   obtain ⟨w6, rfl⟩ : ∃ x : World, x = wc := ⟨_, rfl⟩
   obtain ⟨rfl, hW6, hB6, hT6⟩ := hcut; have hlt6 := hB6.lt; have hgl6 := hW6.lt; have ll6 : (S5.need (x4 || decide (x5 = 0))).b.length = S5.b.length := rfl; generalize S5.need (x4 || decide (x5 = 0)) = S6 at *; have c6_0 := hB6.c 0 rfl; have c6_1 := hB6.c 1 rfl; have c6_2 := hB6.c 2 rfl; have c6_3 := hB6.c 3 rfl; have c6_4 := hB6.c 4 rfl; have c6_5 := hB6.c 5 rfl; have hKf : Hid (∀ j (h : j < x6.length), fromOk x6 j = decide (prevI x6 j < x6[j])) := by
    intro j h; simp [fromOk, List.getElem?_eq_getElem h]
   have hKp : Hid (∀ j (h : j < x6.length), prevI x6 (j + 1) = x6[j]) := by
    intro j h; simp [prevI, List.getElem?_eq_getElem h]
   go_wp2_with fail
   go_loopw [4, 6, 50] (fun p _ i wr => ∃ j : Nat, i = .int .i64 (j : Int) ∧ j ≤ x6.length ∧ p = .int .i64 (prevI x6 j) ∧ Wrt wr g (S6.need (allTo (fromOk x6) j)) ∧ Turned w wr g) (fun _ _ i _ => x6.length - (intOf i).toNat)
   case atStart => exact ⟨0, rfl, by omega, rfl, by rw [show allTo (fromOk x6) 0 = true from rfl, Out.need_true]; exact hW6, hT6⟩
   case round =>
    obtain ⟨j, rfl, hj, rfl, hW, hT⟩ := hrel
    by_cases hlt : j < x6.length
    ·have hji : (j : Int) < (x6.length : Int) := by omega
     obtain ⟨b, off, rfl, hbB, d0⟩ := Ints.at_ (hT.rd hxr hB) hlt; have hs := Lib.hid (hKf.out j hlt); have hs2 : Hid (allTo (fromOk x6) (j + 1) = (allTo (fromOk x6) j && fromOk x6 j)) := rfl; have hs3 := Lib.hid (hKp.out j hlt); generalize x6[j] = y at *; generalize prevI x6 j = pv at *; go_wp2_with fail; refine (need_any _ _ g _ hW).mono ?_; rintro e w9 ⟨rfl, hW9, hT9⟩; go_wp2_with fail
     go_roundw
     case rel => exact ⟨j + 1, by go_num, by omega, by rw [hs3.out], hW9.eq (by rw [Out.need_need, hs2.out, hs.out]), hT.trans hT9⟩
     case measure => simp [intOf]; omega
    ·have hji : ¬ (j : Int) < (x6.length : Int) := by omega
     have hjl : Hid (j = x6.length) := show j = x6.length by omega
     go_wp2
     go_end0
     exact ⟨rfl, hW.eq (by rw [hE.out, ← hjl.out]), hT⟩
set_option maxRecDepth 100000 in
set_option maxHeartbeats 1000000 in
theorem wheader_any (x : HeaderD) (hx : x.ok) (w : World) (g : Nat) (S : Out) (h : Wrt w g S) (hl : S.b.length + 2000 ≤ 70368744177000) :
  Calls Tryz.prog 91 #[.pointer (some ⟨g, 0, none⟩), x.val] w fun e w' => e = .returned (.tuple #[]) ∧ Wrt w' g (S.header x) ∧ Turned w w' g := by
 have hgt := h.lt; have hE : Hid (S.header x = ((S.nums [x.c, x.h]).digs [x.p, x.t, x.g, x.s, x.r, x.b]).num x.o) := rfl; obtain ⟨x1, x2, x3, x4, x5, x6, x7, x8, x9⟩ := x; obtain ⟨⟨p0, p1⟩, ⟨t0, t1⟩, ⟨g0, g1⟩, ⟨s0, s1⟩, ⟨r0, r1⟩, ⟨b0, b1⟩⟩ := hx; dsimp only at p0 p1 t0 t1 g0 g1 s0 s1 r0 r1 b0 b1; dsimp only [HeaderD.val]; go_enter Tryz.func91, Tryz.ntmps91; go_wp2_with fail; have ll1 := S.nums_len [x1, x2]; simp only [List.length_cons, List.length_nil] at ll1; refine (numbers_any [x1, x2] 2 _ g (w.heap.size + 1) S ((h.alloc _).alloc _) (by have hN := Blk.new (w.alloc (.cells #[.int .i64 x1, .int .i64 x2, .int .u64 x3, .int .u64 x4, .int .u64 x5, .int .u64 x6, .int .u64 x7, .int .u64 x8, .int .i64 x9] 52)) 3 #[.int .i64 x1, .int .i64 x2]; simpa using hN) (by omega) (by simp; omega)).mono ?_; rintro e w1 ⟨rfl, hW1, hC1⟩; have hB1 := hC1.blk ((Blk.new _ _ _).alloc _) (by omega) (by decide); have hT1 := (((Turned.refl w g).alloc (by omega) _).alloc (by simp; omega) _).trans hC1; have hlt1 := hB1.lt; have hgl1 := hW1.lt; generalize S.nums [x1, x2] = S1 at *; have c1_0 := hB1.c 0 rfl; have c1_1 := hB1.c 1 rfl; have c1_2 := hB1.c 2 rfl; have c1_3 := hB1.c 3 rfl; have c1_4 := hB1.c 4 rfl; have c1_5 := hB1.c 5 rfl; have c1_6 := hB1.c 6 rfl; have c1_7 := hB1.c 7 rfl; have c1_8 := hB1.c 8 rfl; have c1_2 := hB1.c 2 rfl; have c1_3 := hB1.c 3 rfl; have c1_4 := hB1.c 4 rfl; have c1_5 := hB1.c 5 rfl; have c1_6 := hB1.c 6 rfl; have c1_7 := hB1.c 7 rfl; have hlq : ([x3, x4, x5, x6, x7, x8] : List Int).length = 6 := rfl; have hdk : ∀ d ∈ [x3, x4, x5, x6, x7, x8], 0 ≤ d ∧ d < 18446744073709551616 := by
  intro d hd; simp at hd
  rcases hd with rfl | rfl | rfl | rfl | rfl | rfl <;> omega
 have HDK := Lib.hid hdk; clear hdk; have hN : Blk (w1.alloc (.cells #[.int .u64 x3, .int .u64 x4, .int .u64 x5, .int .u64 x6, .int .u64 x7, .int .u64 x8] 40)) w1.heap.size 40 (([x3, x4, x5, x6, x7, x8] : List Int).map (Value.int .u64)).toArray := Blk.new _ _ _; have hWn := hW1.alloc (.cells #[.int .u64 x3, .int .u64 x4, .int .u64 x5, .int .u64 x6, .int .u64 x7, .int .u64 x8] 40); have hBn := hB1.alloc (.cells #[.int .u64 x3, .int .u64 x4, .int .u64 x5, .int .u64 x6, .int .u64 x7, .int .u64 x8] 40); have hTn := hT1.alloc (by omega) (.cells #[.int .u64 x3, .int .u64 x4, .int .u64 x5, .int .u64 x6, .int .u64 x7, .int .u64 x8] 40); go_wp2_with fail; generalize hdl : ([x3, x4, x5, x6, x7, x8] : List Int) = dl at *; have HDL := Lib.hid hdl; clear hdl
 go_loopw [5, 27] (fun _ i wr => ∃ j : Nat, i = .int .i64 (j : Int) ∧ j ≤ 6 ∧ Wrt wr g ((dl.take j).foldl Out.dig S1) ∧ Blk wr w1.heap.size 40 (dl.map (Value.int .u64)).toArray ∧ Blk wr w.heap.size 52 #[.int .i64 x1, .int .i64 x2, .int .u64 x3, .int .u64 x4, .int .u64 x5, .int .u64 x6, .int .u64 x7, .int .u64 x8, .int .i64 x9] ∧ Turned w wr g) (fun _ i _ => 6 - (intOf i).toNat)
 case atStart => exact ⟨0, rfl, by omega, by simpa using hWn, hN, hBn, hTn⟩
 case round =>
  obtain ⟨j, rfl, hj, hW, hDg, hBx, hT⟩ := hrel
  by_cases hlt : j < 6
  ·have hji : (j : Int) < 6 := by omega
   have hl2 : j < dl.length := by omega
   have d0 : wr.cell? ⟨w1.heap.size, j, none⟩ = some (.int .u64 dl[j]) := (hDg.cell j).trans (by simp [List.getElem?_eq_getElem hl2]); have HS := Lib.hid (fold_take Out.dig S1 dl j hl2); have hle := Out.digs_len S1 (dl.take j); have hle2 : (dl.take j).length ≤ j := by simp; omega
   have hdj := HDK.out dl[j] (List.getElem_mem hl2); generalize dl[j] = y at *; unfold Out.digs at hle; generalize (dl.take j).foldl Out.dig S1 = S7 at *; go_wp2_with fail; refine (digest_any _ _ g _ hW (by omega) (by omega) (by omega)).mono ?_; rintro e w9 ⟨rfl, hW9, hC9⟩; have hD9 := hC9.blk hDg (by omega) (by decide); have hB9 := hC9.blk hBx (by omega) (by decide); go_wp2_with fail
   go_roundw
   case rel => exact ⟨j + 1, by go_num, by omega, by rw [HS.out]; exact hW9, hD9, hB9, hT.trans hC9⟩
   case measure => simp [intOf]; omega
  ·have hji : ¬ (j : Int) < 6 := by omega
   rw [List.take_of_length_le (by omega)] at hW; have hle := Out.digs_len S1 dl; have hEd : Hid (S1.digs dl = dl.foldl Out.dig S1) := rfl; rw [hEd.out] at hle; have k8 := hBx.c 8 rfl; go_wp2_with fail; refine (number_any _ _ g _ hW (by omega)).mono ?_; rintro e w9 ⟨rfl, hW9, hC9⟩; go_wp2_with fail
   go_end0
   exact ⟨rfl, hW9.eq (by rw [hE.out, hEd.out]), hT.trans hC9⟩
set_option maxRecDepth 100000 in
set_option maxHeartbeats 1000000 in
theorem wproof_any (x : ProofD) (B : Nat) (w : World) (g : Nat) (S : Out) (h : Wrt w g S) (hl : S.b.length + 40 * proofM x ≤ 59000000000000) (hx : x.held w B) (hB : B ≤ g) :
  Calls Tryz.prog 97 #[.pointer (some ⟨g, 0, none⟩), x.val] w fun e w' => e = .returned (.tuple #[]) ∧ Wrt w' g (S.proof x) ∧ Turned w w' g := by
 have hgt := h.lt; have hE : Hid (S.proof x = (((((S.list x.turns 288 Out.turn).flag x.leaf).text x.key 32).text x.value 4096).need (allTo (turnOkAt x.turns) x.turns.length)).need (proofOk x)) := rfl; have hK : Hid (proofOk x = ((x.leaf && !emp x.value) || (!x.leaf && decide (x.turns.length = 0) && emp x.key && emp x.value))) := rfl; obtain ⟨ts, tA, tc, x2, x3, x4⟩ := x; simp only [proofM, turns_M] at hl; dsimp only [ProofD.val]; obtain ⟨hxr, hxs, hxd⟩ := hx; dsimp only at hxr hxs hxd; have hsw := turns_W ts; go_enter Tryz.func97, Tryz.ntmps97; go_wp2_with fail; refine (putsTurn_any ts tA tc B 288 _ g _ (h.alloc _) (((Turned.refl w g).alloc (by omega) _).rd hxr hB) hB hxd (by omega) hxs).mono ?_; rintro e w1 ⟨rfl, hW1, hC1⟩; have hB1 := hC1.blk (Blk.new _ _ _) (by omega) (by decide); have hT1 := ((Turned.refl w g).alloc (by omega) _).trans hC1; have hlt1 := hB1.lt; have hgl1 := hW1.lt; have ll1 := list_len Out.turn turnW Out.turn_lenW ts 288 S; generalize S.list ts 288 Out.turn = S1 at *; have c1_0 := hB1.c 0 rfl; have c1_1 := hB1.c 1 rfl; have c1_2 := hB1.c 2 rfl; have c1_3 := hB1.c 3 rfl; go_wp2_with fail; refine (flag_any _ _ g _ hW1 (by omega)).mono ?_; rintro e w2 ⟨rfl, hW2, hC2⟩; have hB2 := hC2.blk hB1 (by omega) (by decide); have hT2 := hT1.trans hC2; have hlt2 := hB2.lt; have hgl2 := hW2.lt; have ll2 := (by simp [Out.flag] : (S1.flag x2).b.length ≤ S1.b.length + 1)
 generalize S1.flag x2 = S2 at *; have c2_0 := hB2.c 0 rfl; have c2_1 := hB2.c 1 rfl; have c2_2 := hB2.c 2 rfl; have c2_3 := hB2.c 3 rfl; go_wp2_with fail; refine (text_anyW x3 32 _ g _ hW2 (by omega)).mono ?_; rintro e w3 ⟨rfl, hW3, hC3⟩; have hB3 := hC3.blk hB2 (by omega) (by decide); have hT3 := hT2.trans hC3; have hlt3 := hB3.lt; have hgl3 := hW3.lt; have ll3 := S2.text_len x3 32; generalize S2.text x3 32 = S3 at *; have c3_0 := hB3.c 0 rfl; have c3_1 := hB3.c 1 rfl; have c3_2 := hB3.c 2 rfl; have c3_3 := hB3.c 3 rfl; go_wp2_with fail; refine (text_anyW x4 4096 _ g _ hW3 (by omega)).mono ?_; rintro e w4 ⟨rfl, hW4, hC4⟩; have hB4 := hC4.blk hB3 (by omega) (by decide); have hT4 := hT3.trans hC4; have hlt4 := hB4.lt; have hgl4 := hW4.lt; have ll4 := S3.text_len x4 4096; generalize S3.text x4 4096 = S4 at *; have c4_0 := hB4.c 0 rfl; have c4_1 := hB4.c 1 rfl; have c4_2 := hB4.c 2 rfl; have c4_3 := hB4.c 3 rfl; have hKf : Hid (∀ j (h : j < ts.length), turnOkAt ts j = decide (prevT ts j < ts[j].p)) := by
  intro j h; simp [turnOkAt, List.getElem?_eq_getElem h]
 have hKp : Hid (∀ j (h : j < ts.length), prevT ts (j + 1) = ts[j].p) := by
  intro j h; simp [prevT, List.getElem?_eq_getElem h]
 go_wp2_with fail
 go_loopw [4, 6, 26] (fun p _ i wr => ∃ j : Nat, i = .int .i64 (j : Int) ∧ j ≤ ts.length ∧ p = .int .i64 (prevT ts j) ∧ Wrt wr g (S4.need (allTo (turnOkAt ts) j)) ∧ Blk wr w.heap.size 87 #[.slice tA ts.length tc, .bool x2, .string (bs x3), .string (bs x4)] ∧ Turned w wr g) (fun _ _ i _ => ts.length - (intOf i).toNat)
 case atStart => exact ⟨0, rfl, by omega, rfl, by rw [show allTo (turnOkAt ts) 0 = true from rfl, Out.need_true]; exact hW4, hB4, hT4⟩
 case round =>
  obtain ⟨j, rfl, hj, rfl, hW, hBx, hT⟩ := hrel; have hgw := hW.lt
  by_cases hlt : j < ts.length
  ·have hji : (j : Int) < (ts.length : Int) := by omega
   obtain ⟨b, off, rfl, hbB, hc⟩ := TurnsL.at_ (hT.rd hxr hB) hlt; have hs := Lib.hid (hKf.out j hlt); have hs2 : Hid (allTo (turnOkAt ts) (j + 1) = (allTo (turnOkAt ts) j && turnOkAt ts j)) := rfl; have hs3 := Lib.hid (hKp.out j hlt); have d0 : wr.cell? ⟨b, off + j * 2, none⟩ = some (.int .i64 ts[j].p) := hc 0 _ rfl; have d1 : wr.cell? ⟨b, off + j * 2 + 1, none⟩ = some (.int .u64 ts[j].d) := hc 1 _ rfl; generalize ts[j] = y at *; clear hc; generalize prevT ts j = pv at *; go_wp2_with fail; refine (need_any _ _ g _ (hW.alloc _)).mono ?_; rintro e w9 ⟨rfl, hW9, hT9⟩; have hB9 := hT9.blk (Blk.new _ _ _) (by omega) (by decide); have hBx9 := hT9.blk (hBx.alloc _) (by omega) (by decide); have d2 := hB9.c 0 rfl; go_wp2_with fail
   go_roundw
   case rel => exact ⟨j + 1, by go_num, by omega, by rw [hs3.out], hW9.eq (by rw [Out.need_need, hs2.out, hs.out]), hBx9, (hT.alloc (Nat.le_of_lt hgw) _).trans hT9⟩
   case measure => simp [intOf]; omega
  ·have hji : ¬ (j : Int) < (ts.length : Int) := by omega
   have hjl : Hid (j = ts.length) := show j = ts.length by omega
   have k0 := hBx.c 0 rfl; have k1 := hBx.c 1 rfl; have k2 := hBx.c 2 rfl; have k3 := hBx.c 3 rfl; go_wp2_with fail
   all_goals
    refine (need_any _ _ g _ hW).mono ?_; rintro e w9 ⟨rfl, hW9, hT9⟩; go_wp2_with fail
    go_end0
    exact ⟨rfl, hW9.eq (by rw [hE.out, hK.out, ← hjl.out]; congr 1; first | grind [emp] | (cases x2 <;> cases x3 <;> cases x4 <;> simp_all [emp])), hT.trans hT9⟩
set_option maxRecDepth 100000 in
set_option maxHeartbeats 1000000 in
theorem wsight_any (x : SightD) (B : Nat) (w : World) (g : Nat) (S : Out) (h : Wrt w g S) (hl : S.b.length + 40 * sightM x ≤ 58999999990000) (hx : x.held w B) (hB : B ≤ g) :
  Calls Tryz.prog 184 #[.pointer (some ⟨g, 0, none⟩), x.val] w fun e w' => e = .returned (.tuple #[]) ∧ Wrt w' g (S.sight x) ∧ Turned w w' g := by
 have hgt := h.lt; have hE : Hid (S.sight x = ((S.header x.header).cert x.cert).bench x.seats) := rfl; obtain ⟨⟨h1, h2, h3, h4, h5, h6, h7, h8, h9⟩, ⟨c1, c2, c3, c4, c5, c6, c6a, c6c⟩, ss, sA, sc⟩ := x; simp only [sightM, headerM] at hl; dsimp only [SightD.val]; obtain ⟨hxh, hxc, hxr, hxs⟩ := hx; dsimp only at hxh hxc hxr hxs; go_enter Tryz.func184, Tryz.ntmps184; go_wp2_with fail; refine (wheader_any ⟨h1, h2, h3, h4, h5, h6, h7, h8, h9⟩ hxh _ g _ (h.alloc _) (by omega)).mono ?_; rintro e w1 ⟨rfl, hW1, hC1⟩; have hB1 := hC1.blk (Blk.new _ _ _) (by omega) (by decide); have hT1 := ((Turned.refl w g).alloc (by omega) _).trans hC1; have hlt1 := hB1.lt; have hgl1 := hW1.lt; have ll1 := S.header_len ⟨h1, h2, h3, h4, h5, h6, h7, h8, h9⟩; generalize S.header ⟨h1, h2, h3, h4, h5, h6, h7, h8, h9⟩ = S1 at *; have c1_0 := hB1.c 0 rfl; have c1_1 := hB1.c 1 rfl; have c1_2 := hB1.c 2 rfl; have c1_3 := hB1.c 3 rfl; have c1_4 := hB1.c 4 rfl; have c1_5 := hB1.c 5 rfl; have c1_6 := hB1.c 6 rfl; have c1_7 := hB1.c 7 rfl; have c1_8 := hB1.c 8 rfl; have c1_9 := hB1.c 9 rfl; have c1_10 := hB1.c 10 rfl; have c1_11 := hB1.c 11 rfl; have c1_12 := hB1.c 12 rfl; have c1_13 := hB1.c 13 rfl; have c1_14 := hB1.c 14 rfl; have c1_15 := hB1.c 15 rfl; go_wp2_with fail; refine (wcert_any ⟨c1, c2, c3, c4, c5, c6, c6a, c6c⟩ B _ g _ hW1 (by omega) (hxc.below (hT1.low.mono hB)) hB).mono ?_; rintro e w2 ⟨rfl, hW2, hC2⟩; have hB2 := hC2.blk hB1 (by omega) (by decide); have hT2 := hT1.trans hC2; have hlt2 := hB2.lt; have hgl2 := hW2.lt; have ll2 := S1.cert_len ⟨c1, c2, c3, c4, c5, c6, c6a, c6c⟩; generalize S1.cert ⟨c1, c2, c3, c4, c5, c6, c6a, c6c⟩ = S2 at *; have c2_0 := hB2.c 0 rfl; have c2_1 := hB2.c 1 rfl; have c2_2 := hB2.c 2 rfl; have c2_3 := hB2.c 3 rfl; have c2_4 := hB2.c 4 rfl; have c2_5 := hB2.c 5 rfl; have c2_6 := hB2.c 6 rfl; have c2_7 := hB2.c 7 rfl; have c2_8 := hB2.c 8 rfl; have c2_9 := hB2.c 9 rfl; have c2_10 := hB2.c 10 rfl
 have c2_11 := hB2.c 11 rfl; have c2_12 := hB2.c 12 rfl; have c2_13 := hB2.c 13 rfl; have c2_14 := hB2.c 14 rfl; have c2_15 := hB2.c 15 rfl; go_wp2_with fail; refine (wbench_any ss sA sc B _ g _ hW2 (hT2.rd hxr hB) hB (by omega) hxs).mono ?_; rintro e w3 ⟨rfl, hW3, hC3⟩; have hB3 := hC3.blk hB2 (by omega) (by decide); have hT3 := hT2.trans hC3; have hlt3 := hB3.lt; have hgl3 := hW3.lt; generalize S2.bench ss = S3 at *; go_wp2_with fail
 go_end0
 exact ⟨rfl, Wrt.eq hW3 (by rw [hE.out] <;> rfl), hT3⟩
end Go.Proofs.YtjhaafbbdgjagaaGreat
