/- Of the texts Wr7, WrT, Wr8, Wr9, Wr11, Wr12, WrU, Wr13, Wr14, Wr16, Wr17, Wr19a. -/
import Derived.Test.YtlfonmpgenoooaaProg
import Derived.Test.YtlfonmpgenoooaaG29
import Derived.Test.YtlfonmpgenoooaaG30
import Derived.Deep.DeepCutAuto
set_option linter.unusedSimpArgs false
set_option linter.unusedVariables false
namespace Go.Proofs.Ytlfonmpgenoooaa
open Go.RowKit
def allTo (f : Nat → Bool) : Nat → Bool
 | 0 => true
 | k + 1 => allTo f k && f k
def prevWho (l : List Seat) (k : Nat) : Int := if k = 0 then 0 else (l.getD (k - 1) ⟨0, 0⟩).who
def benchOkAt (l : List Seat) (k : Nat) : Bool := decide (prevWho l k < (l.getD k ⟨0, 0⟩).who) && decide (1 ≤ (l.getD k ⟨0, 0⟩).weight)
def Out.bench (S : Out) (l : List Seat) : Out := (S.list l 7 Out.seat).need (allTo (benchOkAt l) l.length)
theorem Out.need_true (S : Out) : S.need true = S := by simp [Out.need]
theorem Out.bench_len (S : Out) (l : List Seat) : (S.bench l).b.length ≤ S.b.length + 6 + 12 * l.length := by
 have := list_len Out.seat seatW Out.seat_len l 7 S; rw [show sumL seatW l = 12 * l.length from sumL_const 12 l] at this; exact this
set_option maxRecDepth 100000 in
set_option maxHeartbeats 400000 in
theorem wbench_any (l : List Seat) (A : Option Addr) (c B : Nat) (w : World) (g : Nat) (S : Out) (h : Wrt w g S) (hr : SeatsL w B A l) (hB : B ≤ g) (hl : S.b.length + 200 + 12 * l.length ≤ 70368744176000) (hm : l.length ≤ maxLen) :
  Calls Try.prog 46 #[.pointer (some ⟨g, 0, none⟩), .slice A l.length c] w fun e w' => e = .returned (.tuple #[]) ∧ Wrt w' g (S.bench l) ∧ Turned w w' g := by
 have hgt := h.lt; have hE : Hid (S.bench l = (S.list l 7 Out.seat).need (allTo (benchOkAt l) l.length)) := rfl; have hm' := hm; unfold maxLen at hm; go_enter Try.func46, Try.ntmps46; go_wp2_with fail; refine (putsSeat_any l A c B 7 _ g S h hr hB (by rw [show sumL seatW l = 12 * l.length from sumL_const 12 l]; omega) hm').mono ?_; rintro e w1 ⟨rfl, hW1, hT1⟩; generalize S.list l 7 Out.seat = S2 at *; go_wp2_with fail
 go_loopw [4, 6, 12] (fun x _ i wr => ∃ j : Nat, i = .int .i64 (j : Int) ∧ j ≤ l.length ∧ x = .int .i64 (prevWho l j) ∧ Wrt wr g (S2.need (allTo (benchOkAt l) j)) ∧ Turned w wr g) (fun _ _ i _ => l.length - (intOf i).toNat)
 case atStart => exact ⟨0, rfl, by omega, rfl, by rw [show allTo (benchOkAt l) 0 = true from rfl, Out.need_true]; exact hW1, hT1⟩
 case round =>
  obtain ⟨j, rfl, hj, rfl, hW, hT⟩ := hrel; have hgw := hW.lt
  by_cases hlt : j < l.length
  ·have hji : (j : Int) < (l.length : Int) := by omega
   obtain ⟨b, off, rfl, hbB, hc⟩ := SeatsL.at_ (hT.rd hr hB) hlt; have hs : Hid (benchOkAt l j = (decide (prevWho l j < l[j].who) && decide (1 ≤ l[j].weight))) := by show _ = _; simp [benchOkAt, List.getElem?_eq_getElem hlt]
   have hs2 : Hid (allTo (benchOkAt l) (j + 1) = (allTo (benchOkAt l) j && benchOkAt l j)) := rfl; have hs3 : Hid (prevWho l (j + 1) = l[j].who) := by show _ = _; simp [prevWho, List.getElem?_eq_getElem hlt]
   have c0 : wr.cell? ⟨b, off + j * 2, none⟩ = some (.int .i64 l[j].who) := hc 0 _ rfl; have c1 : wr.cell? ⟨b, off + j * 2 + 1, none⟩ = some (.int .i64 l[j].weight) := hc 1 _ rfl; generalize l[j] = x at *; clear hc; generalize prevWho l j = pv at *; go_wp2_with fail
   all_goals
    refine (need_any _ _ g _ (hW.alloc _)).mono ?_; rintro e w3 ⟨rfl, hW3, hT3⟩; have hB3 := hT3.blk (Blk.new _ _ _) (by omega) (by decide); have c2 := hB3.c 0 rfl; go_wp2_with fail
    go_roundw
    case rel => exact ⟨j + 1, by go_num, by omega, by rw [hs3.out], hW3.eq (by rw [Out.need_need, hs2.out, hs.out]; congr 2; grind), (hT.alloc (Nat.le_of_lt hgw) _).trans hT3⟩
    case measure => simp [intOf]; omega
  ·have hji : ¬ (j : Int) < (l.length : Int) := by omega
   have hjl : Hid (j = l.length) := show j = l.length by omega
   go_wp2
   go_end0
   exact ⟨rfl, by rw [hE.out, ← hjl.out]; exact hW, hT⟩
theorem Ref.ifNear {w : World} {g : Nat} {S S' : Out} (h : Ref w g S) (hf : S.far = S'.far) (hn : S.b.length ≤ S'.b.length) (hb : S.far = false → S.b = S'.b ∧ S.odd = S'.odd) : Ref w g S' := by
 obtain ⟨l, o, hb', hln, ho⟩ := h; exact ⟨l, o, hf ▸ hb', by omega, fun h => by
  have hS : S.far = false := by rw [hf]; exact h
  have h1 := ho hS; have h2 := hb hS; exact ⟨h1.1.trans h2.1, h1.2.trans h2.2⟩⟩
theorem Out.need_num (S : Out) (a : Bool) (n : Int) : (S.need a).num n = (S.num n).need a := rfl
def rbenchOkAt (l : List Seat) (k : Nat) : Bool := !(decide ((l.getD k ⟨0, 0⟩).who < 1) || decide ((l.getD k ⟨0, 0⟩).weight < 1) || (decide (0 < k) && decide ((l.getD k ⟨0, 0⟩).who ≤ (l.getD (k - 1) ⟨0, 0⟩).who)))
theorem Out.seat_far (l : List Seat) (S : Out) (h : (l.foldl Out.seat S).far = false) : S.far = false ∧ ∀ s ∈ l, 0 ≤ s.who := by
 induction l generalizing S with
 | nil => exact ⟨h, by simp⟩
 | cons x l ih =>
  rw [List.foldl_cons] at h; obtain ⟨h1, h2⟩ := ih _ h; have h3 : ((S.far || farN x.who) || farN x.weight) = false := h1; simp only [Bool.or_eq_false_iff] at h3; have h4 := h3.1.2; simp [farN] at h4; exact ⟨h3.1.1, fun s hs => by
   rcases List.mem_cons.1 hs with rfl | hs
   ·exact h4.1
   ·exact h2 s hs⟩
theorem allTo_congr (f g : Nat → Bool) (n : Nat) (h : ∀ k, k < n → f k = g k) : allTo f n = allTo g n := by
 induction n with
 | zero => rfl
 | succ n ih => rw [allTo, allTo, ih (fun k hk => h k (by omega)), h n (by omega)]
theorem bench_oks (l : List Seat) (h : ∀ s ∈ l, 0 ≤ s.who) : allTo (rbenchOkAt l) l.length = allTo (benchOkAt l) l.length := by
 refine allTo_congr _ _ _ fun k hk => ?_
 have h1 := h l[k] (List.getElem_mem hk); unfold rbenchOkAt benchOkAt prevWho
 rcases Nat.eq_zero_or_pos k with h0 | h0
 ·subst h0; simp [List.getElem?_eq_getElem hk]
  grind
 ·have h2 := h l[k - 1] (List.getElem_mem (by omega)); simp [List.getElem?_eq_getElem hk, List.getElem?_eq_getElem (show k - 1 < l.length by omega), show ¬ k = 0 by omega, h0]
  grind
theorem Out.bench_eq {w : World} {g : Nat} {S : Out} (l : List Seat) (h : Ref w g ((l.foldl Out.seat ((S.lim l.length 7).num l.length)).need (allTo (rbenchOkAt l) l.length))) : Ref w g (S.bench l) :=
 h.ifNear rfl (Nat.le_refl _) fun hf => ⟨rfl, by
  have := (Out.seat_far l _ hf).2; show (_ || _) = (_ || _); rw [bench_oks l this]; rfl⟩
set_option maxRecDepth 100000 in
set_option maxHeartbeats 400000 in
theorem rbench_any (l : List Seat) (A : Option Addr) (c B : Nat) (w : World) (g : Nat) (S : Out) (h : Ref w g S) (hr : SeatsL w B A l) (hB : B ≤ g) (hl : S.b.length + 200 + 12 * l.length ≤ 70368744176000) (hm : l.length ≤ maxLen) :
  Calls Try.prog 50 #[.pointer (some ⟨g, 0, none⟩), .slice A l.length c] w fun e w' => e = .returned (.tuple #[]) ∧ Ref w' g (S.bench l) ∧ Turned w w' g := by
 have hgt := h.lt; have hm' := hm; unfold maxLen at hm; have hn := ((S.lim l.length 7).num_len l.length)
 have hb0 : (S.lim l.length 7).b.length = S.b.length := rfl; have hsw : sumL seatW l = 12 * l.length := sumL_const 12 l; go_enter Try.func50, Try.ntmps50; go_wp2_with fail; refine (rcount_any _ _ _ g _ h (by omega)).mono ?_; rintro e w1 ⟨rfl, hW1, hT1⟩; have hE := Lib.hid (fun w' => @Out.bench_eq w' g S l); generalize (S.lim l.length 7).num l.length = S2 at *; go_wp2_with fail
 go_loopw [4] (fun i wr => ∃ j : Nat, i = .int .i64 (j : Int) ∧ j ≤ l.length ∧ Ref wr g (((l.take j).foldl Out.seat S2).need (allTo (rbenchOkAt l) j)) ∧ Turned w wr g) (fun i _ => l.length - (intOf i).toNat)
 case atStart => exact ⟨0, rfl, by omega, by rw [show allTo (rbenchOkAt l) 0 = true from rfl, Out.need_true]; exact hW1, hT1⟩
 case round =>
  obtain ⟨j, rfl, hj, hW, hT⟩ := hrel; have hgw := hW.lt
  by_cases hlt : j < l.length
  ·have hji : (j : Int) < (l.length : Int) := by omega
   obtain ⟨b, off, rfl, hbB, hc⟩ := SeatsL.at_ (hT.rd hr hB) hlt; have HS := Lib.hid (fold_take Out.seat S2 l j hlt); have hle := fold_len Out.seat seatW Out.seat_len (l.take j) S2; have hle2 := sumL_take seatW l j hlt; have hs : Hid (rbenchOkAt l j = !(decide (l[j].who < 1) || decide (l[j].weight < 1) || (decide (0 < j) && decide (l[j].who ≤ (l.getD (j - 1) ⟨0, 0⟩).who)))) := by show _ = _; simp [rbenchOkAt, List.getElem?_eq_getElem hlt]
   have hs2 : Hid (allTo (rbenchOkAt l) (j + 1) = (allTo (rbenchOkAt l) j && rbenchOkAt l j)) := rfl; have hfr : ∀ S1 x, Out.seat S1 x = (S1.num x.who).num x.weight := fun _ _ => rfl
   rw [hfr] at HS; clear hfr; have c0 : wr.cell? ⟨b, off + j * 2, none⟩ = some (.int .i64 l[j].who) := hc 0 _ rfl; have c1 : wr.cell? ⟨b, off + j * 2 + 1, none⟩ = some (.int .i64 l[j].weight) := hc 1 _ rfl; have hlow := hT.rd hr hB; generalize hx : l[j] = x at *; have hX := Lib.hid hx; clear hx hc; generalize (l.take j).foldl Out.seat S2 = S3 at *; generalize allTo (rbenchOkAt l) j = ok at *; have hbn : (S3.need ok).b.length = S3.b.length := rfl; go_wp2_with fail; refine (rnumber_any _ _ g _ hW (by omega)).mono ?_; rintro e w3 ⟨rfl, hW3, hT3⟩; have c3 : w3.cell? ⟨b, off + j * 2 + 1, none⟩ = some (.int .i64 x.weight) := (hT3.low.cell (by simp; omega)).trans c1; rw [Out.need_num] at hW3; have l3 := S3.num_len x.who; generalize S3.num x.who = S4 at *; have hbn2 : (S4.need ok).b.length = S4.b.length := rfl; go_wp2_with fail; refine (rnumber_any _ _ g _ hW3 (by omega)).mono ?_; rintro e w4 ⟨rfl, hW4, hT4⟩; rw [Out.need_num] at hW4; generalize S4.num x.weight = S5 at *; have hT34 := hT3.trans hT4; have c4 : w4.drew.cell? ⟨b, off + j * 2, none⟩ = some (.int .i64 x.who) := (hT34.low.cell (by simp; omega)).trans c0; have c5 : w4.drew.cell? ⟨b, off + j * 2 + 1, none⟩ = some (.int .i64 x.weight) := (hT34.low.cell (by simp; omega)).trans c1; have hfin : ∀ (bad : Bool) (w5 : World), bad = (decide (x.who < 1) || decide (x.weight < 1) || (decide (0 < j) && decide (x.who ≤ (l.getD (j - 1) ⟨0, 0⟩).who))) → Ref w5 g ((S5.need ok).need (!bad)) → Ref w5 g (((l.take (j + 1)).foldl Out.seat S2).need (allTo (rbenchOkAt l) (j + 1))) := by
    intro bad w5 hbad hW5; refine hW5.eq ?_; rw [Out.need_need, hs2.out, hs.out, HS.out, hbad]
   have HF := Lib.hid hfin; clear hfin hs hs2
   by_cases h1 : x.who < 1
   ·go_wp2_with fail; refine wp_region_tail 33 (by kernel_rfl) (by kernel_rfl) ?_; simp only [List.take_succ_cons, List.take_zero, List.drop_succ_cons, List.drop_zero]
    repeat (go_big_quiet_step (fail))
    refine wpQuiet_nil ?_; go_wp2_with fail; refine (rneed_any _ _ g _ hW4.drew).mono ?_; rintro e w5 ⟨rfl, hW5, hT5⟩; go_wp2_with fail
    go_roundw
    case rel => exact ⟨j + 1, by go_num, by omega, HF.out _ _ (by grind) hW5, (hT.trans hT34).drew.trans hT5⟩
    case measure => simp [intOf]; omega
   have h1d : decide (x.who < 1) = false := decide_eq_false h1
   by_cases h2 : x.weight < 1
   ·go_wp2_with fail; refine wp_region_tail 33 (by kernel_rfl) (by kernel_rfl) ?_; simp only [List.take_succ_cons, List.take_zero, List.drop_succ_cons, List.drop_zero]
    repeat (go_big_quiet_step (fail))
    refine wpQuiet_nil ?_; go_wp2_with fail; refine (rneed_any _ _ g _ hW4.drew).mono ?_; rintro e w5 ⟨rfl, hW5, hT5⟩; go_wp2_with fail
    go_roundw
    case rel => exact ⟨j + 1, by go_num, by omega, HF.out _ _ (by grind) hW5, (hT.trans hT34).drew.trans hT5⟩
    case measure => simp [intOf]; omega
   have h2d : decide (x.weight < 1) = false := decide_eq_false h2
   by_cases h3 : 0 < j
   ·have h3i : (0 : Int) < (j : Int) := by omega
    have hj1 : j - 1 < l.length := by omega
    obtain ⟨b', off', e', _, hc'⟩ := SeatsL.at_ hlow hj1; simp only [Option.some.injEq, Addr.mk.injEq, and_true] at e'; obtain ⟨rfl, rfl⟩ := e'; have hp : (l.getD (j - 1) ⟨0, 0⟩).who = l[j - 1].who := by simp [List.getElem?_eq_getElem hj1]
    have c6 : w4.drew.cell? ⟨b, off + (j - 1) * 2, none⟩ = some (.int .i64 l[j - 1].who) := (hT34.low.cell (by simp; omega)).trans (hc' 0 _ rfl); clear hc'; rw [hp] at HF; generalize l[j - 1].who = y at *; have hw1 : IntKind.i64.wrap ((j : Int) - 1) = ((j - 1 : Nat) : Int) := by rw [IntWalk.i64_in _ (by omega)]; omega
    have hj1i : ((j - 1 : Nat) : Int) < (l.length : Int) := by omega
    go_wp2_with fail; refine wp_region_tail 33 (by kernel_rfl) (by kernel_rfl) ?_; simp only [List.take_succ_cons, List.take_zero, List.drop_succ_cons, List.drop_zero]
    repeat (go_big_quiet_step (fail))
    refine wpQuiet_nil ?_; go_wp2_with fail; refine (rneed_any _ _ g _ hW4.drew).mono ?_; rintro e w5 ⟨rfl, hW5, hT5⟩; go_wp2_with fail
    go_roundw
    case rel => exact ⟨j + 1, by go_num, by omega, HF.out _ _ (by grind) hW5, (hT.trans hT34).drew.trans hT5⟩
    case measure => simp [intOf]; omega
   ·have h3d : decide ((0 : Int) < (j : Int)) = false := decide_eq_false (by omega); go_wp2_with fail; refine wp_region_tail 33 (by kernel_rfl) (by kernel_rfl) ?_; simp only [List.take_succ_cons, List.take_zero, List.drop_succ_cons, List.drop_zero]
    repeat (go_big_quiet_step (fail))
    refine wpQuiet_nil ?_; go_wp2_with fail; refine (rneed_any _ _ g _ hW4.drew).mono ?_; rintro e w5 ⟨rfl, hW5, hT5⟩; go_wp2_with fail
    go_roundw
    case rel => exact ⟨j + 1, by go_num, by omega, HF.out _ _ (by grind) hW5, (hT.trans hT34).drew.trans hT5⟩
    case measure => simp [intOf]; omega
  ·have hji : ¬ (j : Int) < (l.length : Int) := by omega
   have hjl : j = l.length := by omega
   subst hjl; rw [List.take_of_length_le (Nat.le_refl _)] at hW; go_wp2
   go_end0
   exact ⟨rfl, hE.out _ hW, hT⟩
structure ResultD where
 c : Int
 u : Int
 v : Int
 notes : List NoteD
 na : Option Addr
 nc : Nat
def ResultD.val (x : ResultD) : Value := .agg #[.int .i64 x.c, .int .i64 x.u, .int .i64 x.v, .slice x.na x.notes.length x.nc]
structure ViewD where
 c : Int
 w : Int
 e : Int
 h : Int
 s : Int
 seats : List Seat
 sa : Option Addr
 sc : Nat
def ViewD.val (x : ViewD) : Value := .agg #[.int .i64 x.c, .int .i64 x.w, .int .i64 x.e, .int .i64 x.h, .int .u64 x.s, .slice x.sa x.seats.length x.sc]
def ViewD.ok (x : ViewD) : Prop := 0 ≤ x.s ∧ x.s < 18446744073709551616
structure GuiltD where
 a : VoteD
 b : VoteD
def GuiltD.cells (x : GuiltD) : List Value := [.int .i64 x.a.h, .int .i64 x.a.r, .int .i64 x.a.s, .bool x.a.has, .int .u64 x.a.b, .int .i64 x.a.f, .int .i64 x.b.h, .int .i64 x.b.r, .int .i64 x.b.s, .bool x.b.has, .int .u64 x.b.b, .int .i64 x.b.f]
def GuiltD.val (x : GuiltD) : Value := .agg #[.int .i64 x.a.h, .int .i64 x.a.r, .int .i64 x.a.s, .bool x.a.has, .int .u64 x.a.b, .int .i64 x.a.f, .int .i64 x.b.h, .int .i64 x.b.r, .int .i64 x.b.s, .bool x.b.has, .int .u64 x.b.b, .int .i64 x.b.f]
def GuiltD.ok (x : GuiltD) : Prop := x.a.ok ∧ x.b.ok
set_option maxRecDepth 100000 in
theorem conv_nil (w : World) : Sem.run Try.prog (convert 96 9 (.slice none 0 0)) w = .ok (.string (bs [])) w := by kernel_rfl
theorem strOfNums_u8 (l : List UInt8) : strOfNums (l.map fun c => (c.toNat : Int)) = bs l := by
 simp [strOfNums, bs, Function.comp_def]
set_option maxRecDepth 100000 in
theorem conv_own (w : World) {base : Nat} {v : Value} {l : List UInt8} (ho : w.ownsRow base 5 1 v l.length (u8s l)) : Sem.run Try.prog (convert 96 9 v) w = .ok (.string (bs l)) w := by
 by_cases h0 : v = .slice none 0 0
 ·subst h0; have hl : l = [] := by
   rcases ho.2 with ⟨_, h⟩ | ⟨g, cap, cur, e, _⟩
   ·exact List.eq_nil_of_length_eq_zero h
   ·cases e
  subst hl; exact conv_nil w
 ·rcases ho.2 with ⟨h, _⟩ | ⟨g, cap, cur, rfl, hb, hh, hn, hc, hs, ht⟩
  ·exact absurd h h0
  ·have := run_convert_bytes_arg (P := Try.prog) w 96 5 Try.underlying96 Try.underlying5 g 0 l.length cap (l.map fun c => (c.toNat : Int)) (by simp) (fun i hi => by
    rw [Nat.zero_add, cell_of_row w g i cur 5 (0, 0) hh]; have h1 : cur.toList[i]? = (u8s l)[i]? := by rw [← ht, List.getElem?_take, if_pos (by omega)]
    rw [show cur[i]? = cur.toList[i]? by simp, h1]; simp [u8s, List.getElem?_eq_getElem hi, List.getD, List.getElem?_map]) 9 Try.underlying9
   rw [strOfNums_u8] at this; exact this
def Out.rs (S : Out) : List UInt8 := if S.far then [] else if S.odd then [] else S.b
def Out.re (S : Out) : Int := if S.far then 3 else if S.odd then 2 else 0
theorem Wrt.new (w : World) : Wrt (w.alloc (.cells #[.slice none 0 0, .bool false, .bool false] 98)) w.heap.size Out.empty :=
 ⟨.slice none 0 0, Blk.new _ _ _, World.ownsRow_nil _ _ _ _⟩
theorem Ref.new (w : World) : Ref (w.alloc (.cells #[.string ⟨#[]⟩, .bool false, .bool false] 79)) w.heap.size Out.empty :=
 ⟨[], false, Blk.new _ _ _, Nat.le_refl _, fun _ => ⟨rfl, rfl⟩⟩
set_option maxRecDepth 100000 in
theorem rout_any (w : World) (g : Nat) (S : Out) (h : Ref w g S) :
  Calls Try.prog 51 #[.pointer (some ⟨g, 0, none⟩)] w fun e w' => e = .returned (.tuple #[.string (bs S.rs), .int .i64 S.re]) ∧ w = w' := by
 obtain ⟨l, o, hb, hln, ho⟩ := h; have hgt := hb.lt; have c0 := hb.c 0 rfl; have c1 := hb.c 1 rfl; have c2 := hb.c 2 rfl; obtain ⟨b, far, odd⟩ := S; dsimp only at *; cases far
 ·obtain ⟨rfl, rfl⟩ := ho rfl; clear ho; cases o
  ·go_enter Try.func51, Try.ntmps51; go_wp2_with fail
   go_ret2
   exact ⟨rfl, rfl⟩
  ·go_enter Try.func51, Try.ntmps51; go_wp2_with fail
   go_ret2
   exact ⟨rfl, rfl⟩
 ·clear ho; go_enter Try.func51, Try.ntmps51; go_wp2_with fail
  go_ret2
  exact ⟨rfl, rfl⟩
set_option maxRecDepth 100000 in
set_option maxHeartbeats 400000 in
theorem write_bench (x : (List Seat)) (A : Option Addr) (c B : Nat) (w : World) (hr : SeatsL w B A x) (hB : B ≤ w.heap.size) (hl : x.length ≤ 65536) :
  Calls Try.prog 45 #[.slice A x.length c, .func (.func 46) #[] #[]] w fun e w' => e = .returned (.tuple #[.string (bs (Out.empty.bench x).rs), .int .i64 (Out.empty.bench x).re]) ∧ Below w.heap.size w w' := by
 go_enter Try.func45, Try.ntmps45; go_wp2_with fail; refine (wbench_any x A c B _ w.heap.size _ (Wrt.new w) (by first | exact hr.alloc hB _ | exact hr) hB (by simp [Out.empty]; omega) (by simp [maxLen]; omega)).mono ?_; rintro e w1 ⟨rfl, ⟨v, hb, ho⟩, hT1⟩; have hgl := hb.lt; have hS := hT1.size; have hBel : Below w.heap.size w w1 := (((Below.refl _ _).alloc (Nat.le_refl _) _) |>.trans (hT1.low.mono (by omega)))
 generalize hSE : Out.empty.bench x = S1 at *; have HSE := Lib.hid hSE; clear hSE; have c0 := hb.c 0 rfl; have c1 := hb.c 1 rfl; have c2 := hb.c 2 rfl; have hcv := conv_own w1 ho; clear hb ho; obtain ⟨b, far, odd⟩ := S1; dsimp only at *; cases far
 ·cases odd
  ·go_wp2_with fail
   go_ret2
   exact ⟨by rw [HSE.out]; rfl, hBel⟩
  ·go_wp2_with fail
   go_ret2
   exact ⟨by rw [HSE.out]; rfl, hBel⟩
 ·go_wp2_with fail
  go_ret2
  exact ⟨by rw [HSE.out]; rfl, hBel⟩
set_option maxRecDepth 100000 in
theorem put_bench (x : (List Seat)) (A : Option Addr) (c B : Nat) (w : World) (hr : SeatsL w B A x) (hB : B ≤ w.heap.size) (hl : x.length ≤ 65536) :
  Calls Try.prog 33 #[.slice A x.length c] w fun e w' => e = .returned (.tuple #[.string (bs (Out.empty.bench x).rs), .int .i64 (Out.empty.bench x).re]) ∧ Below w.heap.size w w' := by
 have hWr := write_bench x A c B w hr hB hl; generalize Out.empty.bench x = S1 at *; go_enter Try.func33, Try.ntmps33; go_wp2_with fail; refine hWr.mono ?_; rintro e w1 ⟨rfl, hb⟩; go_wp2_with fail
 go_ret2
 exact ⟨rfl, hb⟩
set_option maxRecDepth 100000 in
set_option maxHeartbeats 400000 in
theorem rput_bench (x : (List Seat)) (A : Option Addr) (c B : Nat) (w : World) (hr : SeatsL w B A x) (hB : B ≤ w.heap.size) (hl : x.length ≤ 65536) :
  Calls Try.prog 35 #[.slice A x.length c] w fun e w' => e = .returned (.tuple #[.string (bs (Out.empty.bench x).rs), .int .i64 (Out.empty.bench x).re]) ∧ Below w.heap.size w w' := by
 go_enter Try.func35, Try.ntmps35; go_wp2_with fail; refine (rbench_any x A c B _ w.heap.size _ (Ref.new w) (by first | exact hr.alloc hB _ | exact hr) hB (by simp [Out.empty]; omega) (by simp [maxLen]; omega)).mono ?_; rintro e w1 ⟨rfl, hW1, hT1⟩; have hgl1 := hW1.lt; have hS := hT1.size; have hBel : Below w.heap.size w w1 := (((Below.refl _ _).alloc (Nat.le_refl _) _) |>.trans (hT1.low.mono (by omega)))
 go_wp2_with fail; refine (rout_any _ _ _ hW1).mono ?_; rintro e w9 ⟨rfl, rfl⟩; go_wp2_with fail
 go_ret2
 exact ⟨rfl, hBel⟩
structure HeaderD where
 c : Int
 h : Int
 p : Int
 t : Int
 g : Int
 s : Int
 r : Int
 b : Int
 o : Int
def HeaderD.cells (x : HeaderD) : List Value := [.int .i64 x.c, .int .i64 x.h, .int .u64 x.p, .int .u64 x.t, .int .u64 x.g, .int .u64 x.s, .int .u64 x.r, .int .u64 x.b, .int .i64 x.o]
def HeaderD.val (x : HeaderD) : Value := .agg #[.int .i64 x.c, .int .i64 x.h, .int .u64 x.p, .int .u64 x.t, .int .u64 x.g, .int .u64 x.s, .int .u64 x.r, .int .u64 x.b, .int .i64 x.o]
def HeaderD.ok (x : HeaderD) : Prop := (0 ≤ x.p ∧ x.p < 18446744073709551616) ∧ (0 ≤ x.t ∧ x.t < 18446744073709551616) ∧ (0 ≤ x.g ∧ x.g < 18446744073709551616) ∧ (0 ≤ x.s ∧ x.s < 18446744073709551616) ∧ (0 ≤ x.r ∧ x.r < 18446744073709551616) ∧ (0 ≤ x.b ∧ x.b < 18446744073709551616)
def Out.digs (S : Out) (l : List Int) : Out := l.foldl Out.dig S
def Out.header (S : Out) (x : HeaderD) : Out := ((S.nums [x.c, x.h]).digs [x.p, x.t, x.g, x.s, x.r, x.b]).num x.o
structure CertD where
 h : Int
 r : Int
 s : Int
 has : Bool
 b : Int
 froms : List Int
 fa : Option Addr
 fc : Nat
def CertD.cells (x : CertD) : List Value := [.int .i64 x.h, .int .i64 x.r, .int .i64 x.s, .bool x.has, .int .u64 x.b, .slice x.fa x.froms.length x.fc]
def CertD.val (x : CertD) : Value := .agg #[.int .i64 x.h, .int .i64 x.r, .int .i64 x.s, .bool x.has, .int .u64 x.b, .slice x.fa x.froms.length x.fc]
structure CertD.held (w : World) (B : Nat) (x : CertD) : Prop where
 dig : 0 ≤ x.b ∧ x.b < 18446744073709551616
 read : Ints w B x.fa x.froms
 short : x.froms.length ≤ maxLen
theorem CertD.held.below {w w' : World} {B : Nat} {x : CertD} (h : x.held w B) (hb : Below B w w') : x.held w' B := ⟨h.dig, Rd.below h.read hb, h.short⟩
def prevI (l : List Int) (k : Nat) : Int := if k = 0 then 0 else l.getD (k - 1) 0
def fromOk (l : List Int) (k : Nat) : Bool := decide (prevI l k < l.getD k 0)
def certOk (x : CertD) : Bool := (decide (x.s = 1) || decide (x.s = 2)) && (x.has || decide (x.b = 0))
def Out.cert (S : Out) (x : CertD) : Out := ((((((S.nums [x.h, x.r, x.s]).flag x.has).dig x.b).list x.froms 7 Out.num).need (certOk x)).need (allTo (fromOk x.froms) x.froms.length))
abbrev TurnsL (w : World) (B : Nat) (A : Option Addr) (l : List TurnD) : Prop := Lay 2 TurnD.cells w B A l
theorem TurnsL.at_ {w : World} {B : Nat} {A : Option Addr} {l : List TurnD} (h : TurnsL w B A l) {k : Nat} (hk : k < l.length) :
  ∃ b off, A = some ⟨b, off, none⟩ ∧ b < B ∧ ∀ j u, (l[k].cells)[j]? = some u → w.cell? ⟨b, off + k * 2 + j, none⟩ = some u := Lay.at_ (n := 2) (fun _ => rfl) (by omega) h hk
structure ProofD where
 turns : List TurnD
 ta : Option Addr
 tc : Nat
 leaf : Bool
 key : List UInt8
 value : List UInt8
def ProofD.cells (x : ProofD) : List Value := [.slice x.ta x.turns.length x.tc, .bool x.leaf, .string (bs x.key), .string (bs x.value)]
def ProofD.val (x : ProofD) : Value := .agg #[.slice x.ta x.turns.length x.tc, .bool x.leaf, .string (bs x.key), .string (bs x.value)]
structure ProofD.held (w : World) (B : Nat) (x : ProofD) : Prop where
 read : TurnsL w B x.ta x.turns
 short : x.turns.length ≤ maxLen
 digs : ∀ t ∈ x.turns, t.ok
theorem ProofD.held.below {w w' : World} {B : Nat} {x : ProofD} (h : x.held w B) (hb : Below B w w') : x.held w' B := ⟨Rd.below h.read hb, h.short, h.digs⟩
def prevT (l : List TurnD) (k : Nat) : Int := if k = 0 then -1 else (l.getD (k - 1) ⟨0, 0⟩).p
def turnOkAt (l : List TurnD) (k : Nat) : Bool := decide (prevT l k < (l.getD k ⟨0, 0⟩).p)
def emp (l : List UInt8) : Bool := l.isEmpty
def proofOk (x : ProofD) : Bool := (x.leaf && !emp x.value) || (!x.leaf && decide (x.turns.length = 0) && emp x.key && emp x.value)
def Out.proof (S : Out) (x : ProofD) : Out := (((((S.list x.turns 288 Out.turn).flag x.leaf).text x.key 32).text x.value 4096).need (allTo (turnOkAt x.turns) x.turns.length)).need (proofOk x)
structure SightD where
 header : HeaderD
 cert : CertD
 seats : List Seat
 sa : Option Addr
 sc : Nat
def SightD.cells (x : SightD) : List Value := [.int .i64 x.header.c, .int .i64 x.header.h, .int .u64 x.header.p, .int .u64 x.header.t, .int .u64 x.header.g, .int .u64 x.header.s, .int .u64 x.header.r, .int .u64 x.header.b, .int .i64 x.header.o, .int .i64 x.cert.h, .int .i64 x.cert.r, .int .i64 x.cert.s, .bool x.cert.has, .int .u64 x.cert.b, .slice x.cert.fa x.cert.froms.length x.cert.fc, .slice x.sa x.seats.length x.sc]
def SightD.val (x : SightD) : Value := .agg #[.int .i64 x.header.c, .int .i64 x.header.h, .int .u64 x.header.p, .int .u64 x.header.t, .int .u64 x.header.g, .int .u64 x.header.s, .int .u64 x.header.r, .int .u64 x.header.b, .int .i64 x.header.o, .int .i64 x.cert.h, .int .i64 x.cert.r, .int .i64 x.cert.s, .bool x.cert.has, .int .u64 x.cert.b, .slice x.cert.fa x.cert.froms.length x.cert.fc, .slice x.sa x.seats.length x.sc]
structure SightD.held (w : World) (B : Nat) (x : SightD) : Prop where
 header : x.header.ok
 cert : x.cert.held w B
 read : SeatsL w B x.sa x.seats
 short : x.seats.length ≤ maxLen
theorem SightD.held.below {w w' : World} {B : Nat} {x : SightD} (h : x.held w B) (hb : Below B w w') : x.held w' B := ⟨h.header, h.cert.below hb, Rd.below h.read hb, h.short⟩
def Out.sight (S : Out) (x : SightD) : Out := ((S.header x.header).cert x.cert).bench x.seats
abbrev SightsL (w : World) (B : Nat) (A : Option Addr) (l : List SightD) : Prop := Lay 16 SightD.cells w B A l
theorem SightsL.at_ {w : World} {B : Nat} {A : Option Addr} {l : List SightD} (h : SightsL w B A l) {k : Nat} (hk : k < l.length) :
  ∃ b off, A = some ⟨b, off, none⟩ ∧ b < B ∧ ∀ j u, (l[k].cells)[j]? = some u → w.cell? ⟨b, off + k * 16 + j, none⟩ = some u := Lay.at_ (n := 16) (fun _ => rfl) (by omega) h hk
abbrev ProofsL (w : World) (B : Nat) (A : Option Addr) (l : List ProofD) : Prop := Lay 4 ProofD.cells w B A l
theorem ProofsL.at_ {w : World} {B : Nat} {A : Option Addr} {l : List ProofD} (h : ProofsL w B A l) {k : Nat} (hk : k < l.length) :
  ∃ b off, A = some ⟨b, off, none⟩ ∧ b < B ∧ ∀ j u, (l[k].cells)[j]? = some u → w.cell? ⟨b, off + k * 4 + j, none⟩ = some u := Lay.at_ (n := 4) (fun _ => rfl) (by omega) h hk
structure TxD where
 k : Int
 f : Int
 n : Int
 p : Int
 l : Int
 t : Int
 a : Int
 text : List UInt8
 args : List Int
 aa : Option Addr
 ac : Nat
 sights : List SightD
 sa : Option Addr
 sc : Nat
 proofs : List ProofD
 pa : Option Addr
 pc : Nat
def TxD.cells (x : TxD) : List Value := [.int .i64 x.k, .int .i64 x.f, .int .i64 x.n, .int .i64 x.p, .int .i64 x.l, .int .i64 x.t, .int .i64 x.a, .string (bs x.text), .slice x.aa x.args.length x.ac, .slice x.sa x.sights.length x.sc, .slice x.pa x.proofs.length x.pc]
def TxD.val (x : TxD) : Value := .agg #[.int .i64 x.k, .int .i64 x.f, .int .i64 x.n, .int .i64 x.p, .int .i64 x.l, .int .i64 x.t, .int .i64 x.a, .string (bs x.text), .slice x.aa x.args.length x.ac, .slice x.sa x.sights.length x.sc, .slice x.pa x.proofs.length x.pc]
structure TxD.held (w : World) (B : Nat) (x : TxD) : Prop where
 args : Ints w B x.aa x.args
 sights : SightsL w B x.sa x.sights
 proofs : ProofsL w B x.pa x.proofs
 short : x.args.length ≤ maxLen ∧ x.sights.length ≤ maxLen ∧ x.proofs.length ≤ maxLen
 sight : ∀ s ∈ x.sights, s.held w B
 proof : ∀ s ∈ x.proofs, s.held w B
theorem TxD.held.below {w w' : World} {B : Nat} {x : TxD} (h : x.held w B) (hb : Below B w w') : x.held w' B :=
 ⟨Rd.below h.args hb, Rd.below h.sights hb, Rd.below h.proofs hb, h.short, fun s hs => (h.sight s hs).below hb, fun s hs => (h.proof s hs).below hb⟩
end Go.Proofs.Ytlfonmpgenoooaa
