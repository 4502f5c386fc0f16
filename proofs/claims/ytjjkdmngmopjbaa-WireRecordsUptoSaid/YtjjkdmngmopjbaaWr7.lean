/- A bench, as both writers write it. -/
import Derived.Test.YtjjkdmngmopjbaaProg
import Derived.Test.YtjjkdmngmopjbaaWr5
import Derived.Test.YtjjkdmngmopjbaaWr6
import Derived.Test.YtjjkdmngmopjbaaTail
namespace Go.Proofs.Ytjjkdmngmopjbaa
open Go.RowKit
def allTo (f : Nat → Bool) : Nat → Bool
  | 0 => true
  | k + 1 => allTo f k && f k
def prevWho (l : List Seat) (k : Nat) : Int := if k = 0 then 0 else (l.getD (k - 1) ⟨0, 0⟩).who
def benchOkAt (l : List Seat) (k : Nat) : Bool := decide (prevWho l k < (l.getD k ⟨0, 0⟩).who) && decide (1 ≤ (l.getD k ⟨0, 0⟩).weight)
def Out.bench (S : Out) (l : List Seat) : Out := (S.list l 7 Out.seat).need (allTo (benchOkAt l) l.length)
theorem Out.need_true (S : Out) : S.need true = S := by simp [Out.need]
theorem Out.bench_len (S : Out) (l : List Seat) : (S.bench l).b.length ≤ S.b.length + 6 + 12 * l.length := by
  have := list_len Out.seat seatW Out.seat_len l 7 S
  rw [show sumL seatW l = 12 * l.length from sumL_const 12 l] at this
  exact this
set_option maxRecDepth 100000 in
set_option maxHeartbeats 400000 in
theorem wbench_any (l : List Seat) (A : Option Addr) (c B : Nat) (w : World) (g : Nat) (S : Out) (h : Wrt w g S) (hr : SeatsL w B A l) (hB : B ≤ g) (hl : S.b.length + 200 + 12 * l.length ≤ 70368744176000) (hm : l.length ≤ maxLen) :
    Calls Try.prog 153 #[.pointer (some ⟨g, 0, none⟩), .slice A l.length c] w fun e w' => e = .returned (.tuple #[]) ∧ Wrt w' g (S.bench l) ∧ Turned w w' g := by
  have hgt := h.lt
  have hE : Hid (S.bench l = (S.list l 7 Out.seat).need (allTo (benchOkAt l) l.length)) := rfl
  have hm' := hm
  unfold maxLen at hm
  go_enter Try.func153, Try.ntmps153
  go_wp2_with fail
  refine (putsSeat_any l A c B 7 _ g S h hr hB (by rw [show sumL seatW l = 12 * l.length from sumL_const 12 l]; omega) hm').mono ?_
  rintro e w1 ⟨rfl, hW1, hT1⟩
  generalize S.list l 7 Out.seat = S2 at *
  go_wp2_with fail
  go_loopw [4, 6, 12] (fun x _ i wr => ∃ j : Nat, i = .int .i64 (j : Int) ∧ j ≤ l.length ∧ x = .int .i64 (prevWho l j) ∧ Wrt wr g (S2.need (allTo (benchOkAt l) j)) ∧ Turned w wr g) (fun _ _ i _ => l.length - (intOf i).toNat)
  case atStart => exact ⟨0, rfl, by omega, rfl, by rw [show allTo (benchOkAt l) 0 = true from rfl, Out.need_true]; exact hW1, hT1⟩
  case round =>
    obtain ⟨j, rfl, hj, rfl, hW, hT⟩ := hrel
    have hgw := hW.lt
    by_cases hlt : j < l.length
    · have hji : (j : Int) < (l.length : Int) := by omega
      obtain ⟨b, off, rfl, hbB, hc⟩ := SeatsL.at_ (hT.rd hr hB) hlt
      have hs : Hid (benchOkAt l j = (decide (prevWho l j < l[j].who) && decide (1 ≤ l[j].weight))) := by show _ = _; simp [benchOkAt, List.getElem?_eq_getElem hlt]
      have hs2 : Hid (allTo (benchOkAt l) (j + 1) = (allTo (benchOkAt l) j && benchOkAt l j)) := rfl
      have hs3 : Hid (prevWho l (j + 1) = l[j].who) := by show _ = _; simp [prevWho, List.getElem?_eq_getElem hlt]
      have c0 : wr.cell? ⟨b, off + j * 2, none⟩ = some (.int .i64 l[j].who) := hc 0 _ rfl
      have c1 : wr.cell? ⟨b, off + j * 2 + 1, none⟩ = some (.int .i64 l[j].weight) := hc 1 _ rfl
      generalize l[j] = x at *
      clear hc
      generalize prevWho l j = pv at *
      go_wp2_with fail
      all_goals
        refine (need_any _ _ g _ (hW.alloc _)).mono ?_
        rintro e w3 ⟨rfl, hW3, hT3⟩
        have hB3 := hT3.blk (Blk.new _ _ _) (by omega) (by decide)
        have c2 := (hB3.cell 0).trans (show _ = some (.int .i64 x.who) from rfl)
        go_wp2_with fail
        go_roundw
        case rel => exact ⟨j + 1, by go_num, by omega, by rw [hs3.out], hW3.eq (by rw [Out.need_need, hs2.out, hs.out]; congr 2; grind), (hT.alloc (Nat.le_of_lt hgw) _).trans hT3⟩
        case measure => simp [intOf]; omega
    · have hji : ¬ (j : Int) < (l.length : Int) := by omega
      have hjl : Hid (j = l.length) := show j = l.length by omega
      go_wp2
      go_end0
      exact ⟨rfl, by rw [hE.out, ← hjl.out]; exact hW, hT⟩
/-- what holds as long as nothing was too far -/
theorem Ref.ifNear {w : World} {g : Nat} {S S' : Out} (h : Ref w g S) (hf : S.far = S'.far) (hn : S.b.length ≤ S'.b.length) (hb : S.far = false → S.b = S'.b ∧ S.odd = S'.odd) : Ref w g S' := by
  obtain ⟨l, o, hb', hln, ho⟩ := h
  exact ⟨l, o, hf ▸ hb', by omega, fun h => by
    have hS : S.far = false := by rw [hf]; exact h
    have h1 := ho hS
    have h2 := hb hS
    exact ⟨h1.1.trans h2.1, h1.2.trans h2.2⟩⟩
theorem Out.need_num (S : Out) (a : Bool) (n : Int) : (S.need a).num n = (S.num n).need a := rfl
def rbenchOkAt (l : List Seat) (k : Nat) : Bool := !(decide ((l.getD k ⟨0, 0⟩).who < 1) || decide ((l.getD k ⟨0, 0⟩).weight < 1) || (decide (0 < k) && decide ((l.getD k ⟨0, 0⟩).who ≤ (l.getD (k - 1) ⟨0, 0⟩).who)))
theorem Out.seat_far (l : List Seat) (S : Out) (h : (l.foldl Out.seat S).far = false) : S.far = false ∧ ∀ s ∈ l, 0 ≤ s.who := by
  induction l generalizing S with
  | nil => exact ⟨h, by simp⟩
  | cons x l ih =>
    rw [List.foldl_cons] at h
    obtain ⟨h1, h2⟩ := ih _ h
    have h3 : ((S.far || farN x.who) || farN x.weight) = false := h1
    simp only [Bool.or_eq_false_iff] at h3
    have h4 := h3.1.2
    simp [farN] at h4
    exact ⟨h3.1.1, fun s hs => by
      rcases List.mem_cons.1 hs with rfl | hs
      · exact h4.1
      · exact h2 s hs⟩
theorem allTo_congr (f g : Nat → Bool) (n : Nat) (h : ∀ k, k < n → f k = g k) : allTo f n = allTo g n := by
  induction n with
  | zero => rfl
  | succ n ih => rw [allTo, allTo, ih (fun k hk => h k (by omega)), h n (by omega)]
theorem bench_oks (l : List Seat) (h : ∀ s ∈ l, 0 ≤ s.who) : allTo (rbenchOkAt l) l.length = allTo (benchOkAt l) l.length := by
  refine allTo_congr _ _ _ fun k hk => ?_
  have h1 := h l[k] (List.getElem_mem hk)
  unfold rbenchOkAt benchOkAt prevWho
  rcases Nat.eq_zero_or_pos k with h0 | h0
  · subst h0
    simp [List.getElem?_eq_getElem hk]
    grind
  · have h2 := h l[k - 1] (List.getElem_mem (by omega))
    simp [List.getElem?_eq_getElem hk, List.getElem?_eq_getElem (show k - 1 < l.length by omega), show ¬ k = 0 by omega, h0]
    grind
theorem Out.bench_eq {w : World} {g : Nat} {S : Out} (l : List Seat) (h : Ref w g ((l.foldl Out.seat ((S.lim l.length 7).num l.length)).need (allTo (rbenchOkAt l) l.length))) : Ref w g (S.bench l) :=
  h.ifNear rfl (Nat.le_refl _) fun hf => ⟨rfl, by
    have := (Out.seat_far l _ hf).2
    show (_ || _) = (_ || _)
    rw [bench_oks l this]
    rfl⟩
set_option maxRecDepth 100000 in
set_option maxHeartbeats 400000 in
theorem rbench_any (l : List Seat) (A : Option Addr) (c B : Nat) (w : World) (g : Nat) (S : Out) (h : Ref w g S) (hr : SeatsL w B A l) (hB : B ≤ g) (hl : S.b.length + 200 + 12 * l.length ≤ 70368744176000) (hm : l.length ≤ maxLen) :
    Calls Try.prog 129 #[.pointer (some ⟨g, 0, none⟩), .slice A l.length c] w fun e w' => e = .returned (.tuple #[]) ∧ Ref w' g (S.bench l) ∧ Turned w w' g := by
  have hgt := h.lt
  have hm' := hm
  unfold maxLen at hm
  have hn := ((S.lim l.length 7).num_len l.length)
  have hb0 : (S.lim l.length 7).b.length = S.b.length := rfl
  have hsw : sumL seatW l = 12 * l.length := sumL_const 12 l
  go_enter Try.func129, Try.ntmps129
  go_wp2_with fail
  refine (rcount_any _ _ _ g _ h (by omega)).mono ?_
  rintro e w1 ⟨rfl, hW1, hT1⟩
  have hE := Lib.hid (fun w' => @Out.bench_eq w' g S l)
  generalize (S.lim l.length 7).num l.length = S2 at *
  go_wp2_with fail
  go_loopw [4] (fun i wr => ∃ j : Nat, i = .int .i64 (j : Int) ∧ j ≤ l.length ∧ Ref wr g (((l.take j).foldl Out.seat S2).need (allTo (rbenchOkAt l) j)) ∧ Turned w wr g) (fun i _ => l.length - (intOf i).toNat)
  case atStart => exact ⟨0, rfl, by omega, by rw [show allTo (rbenchOkAt l) 0 = true from rfl, Out.need_true]; exact hW1, hT1⟩
  case round =>
    obtain ⟨j, rfl, hj, hW, hT⟩ := hrel
    have hgw := hW.lt
    by_cases hlt : j < l.length
    · have hji : (j : Int) < (l.length : Int) := by omega
      obtain ⟨b, off, rfl, hbB, hc⟩ := SeatsL.at_ (hT.rd hr hB) hlt
      have HS := Lib.hid (fold_take Out.seat S2 l j hlt)
      have hle := fold_len Out.seat seatW Out.seat_len (l.take j) S2
      have hle2 := sumL_take seatW l j hlt
      have hs : Hid (rbenchOkAt l j = !(decide (l[j].who < 1) || decide (l[j].weight < 1) || (decide (0 < j) && decide (l[j].who ≤ (l.getD (j - 1) ⟨0, 0⟩).who)))) := by show _ = _; simp [rbenchOkAt, List.getElem?_eq_getElem hlt]
      have hs2 : Hid (allTo (rbenchOkAt l) (j + 1) = (allTo (rbenchOkAt l) j && rbenchOkAt l j)) := rfl
      have hfr : ∀ S1 x, Out.seat S1 x = (S1.num x.who).num x.weight := fun _ _ => rfl
      rw [hfr] at HS
      clear hfr
      have c0 : wr.cell? ⟨b, off + j * 2, none⟩ = some (.int .i64 l[j].who) := hc 0 _ rfl
      have c1 : wr.cell? ⟨b, off + j * 2 + 1, none⟩ = some (.int .i64 l[j].weight) := hc 1 _ rfl
      have hlow := hT.rd hr hB
      generalize hx : l[j] = x at *
      have hX := Lib.hid hx
      clear hx hc
      generalize (l.take j).foldl Out.seat S2 = S3 at *
      generalize allTo (rbenchOkAt l) j = ok at *
      have hbn : (S3.need ok).b.length = S3.b.length := rfl
      go_wp2_with fail
      refine (rnumber_any _ _ g _ hW (by omega)).mono ?_
      rintro e w3 ⟨rfl, hW3, hT3⟩
      have c3 : w3.cell? ⟨b, off + j * 2 + 1, none⟩ = some (.int .i64 x.weight) := (hT3.low.cell (by simp; omega)).trans c1
      rw [Out.need_num] at hW3
      have l3 := S3.num_len x.who
      generalize S3.num x.who = S4 at *
      have hbn2 : (S4.need ok).b.length = S4.b.length := rfl
      go_wp2_with fail
      refine (rnumber_any _ _ g _ hW3 (by omega)).mono ?_
      rintro e w4 ⟨rfl, hW4, hT4⟩
      rw [Out.need_num] at hW4
      generalize S4.num x.weight = S5 at *
      have hT34 := hT3.trans hT4
      have c4 : w4.drew.cell? ⟨b, off + j * 2, none⟩ = some (.int .i64 x.who) := (hT34.low.cell (by simp; omega)).trans c0
      have c5 : w4.drew.cell? ⟨b, off + j * 2 + 1, none⟩ = some (.int .i64 x.weight) := (hT34.low.cell (by simp; omega)).trans c1
      have hfin : ∀ (bad : Bool) (w5 : World), bad = (decide (x.who < 1) || decide (x.weight < 1) || (decide (0 < j) && decide (x.who ≤ (l.getD (j - 1) ⟨0, 0⟩).who))) → Ref w5 g ((S5.need ok).need (!bad)) → Ref w5 g (((l.take (j + 1)).foldl Out.seat S2).need (allTo (rbenchOkAt l) (j + 1))) := by
        intro bad w5 hbad hW5
        refine hW5.eq ?_
        rw [Out.need_need, hs2.out, hs.out, HS.out, hbad]
      have HF := Lib.hid hfin
      clear hfin hs hs2
      by_cases h1 : x.who < 1
      · go_wp2_with fail
        refine wp_region_tail 33 (by kernel_rfl) (by kernel_rfl) ?_
        simp only [List.take_succ_cons, List.take_zero, List.drop_succ_cons, List.drop_zero]
        repeat (go_big_quiet_step (fail))
        refine wpQuiet_nil ?_
        go_wp2_with fail
        refine (rneed_any _ _ g _ hW4.drew).mono ?_
        rintro e w5 ⟨rfl, hW5, hT5⟩
        go_wp2_with fail
        go_roundw
        case rel => exact ⟨j + 1, by go_num, by omega, HF.out _ _ (by grind) hW5, (hT.trans hT34).drew.trans hT5⟩
        case measure => simp [intOf]; omega
      have h1d : decide (x.who < 1) = false := decide_eq_false h1
      by_cases h2 : x.weight < 1
      · go_wp2_with fail
        refine wp_region_tail 33 (by kernel_rfl) (by kernel_rfl) ?_
        simp only [List.take_succ_cons, List.take_zero, List.drop_succ_cons, List.drop_zero]
        repeat (go_big_quiet_step (fail))
        refine wpQuiet_nil ?_
        go_wp2_with fail
        refine (rneed_any _ _ g _ hW4.drew).mono ?_
        rintro e w5 ⟨rfl, hW5, hT5⟩
        go_wp2_with fail
        go_roundw
        case rel => exact ⟨j + 1, by go_num, by omega, HF.out _ _ (by grind) hW5, (hT.trans hT34).drew.trans hT5⟩
        case measure => simp [intOf]; omega
      have h2d : decide (x.weight < 1) = false := decide_eq_false h2
      by_cases h3 : 0 < j
      · have h3i : (0 : Int) < (j : Int) := by omega
        have hj1 : j - 1 < l.length := by omega
        obtain ⟨b', off', e', _, hc'⟩ := SeatsL.at_ hlow hj1
        simp only [Option.some.injEq, Addr.mk.injEq, and_true] at e'
        obtain ⟨rfl, rfl⟩ := e'
        have hp : (l.getD (j - 1) ⟨0, 0⟩).who = l[j - 1].who := by simp [List.getElem?_eq_getElem hj1]
        have c6 : w4.drew.cell? ⟨b, off + (j - 1) * 2, none⟩ = some (.int .i64 l[j - 1].who) := (hT34.low.cell (by simp; omega)).trans (hc' 0 _ rfl)
        clear hc'
        rw [hp] at HF
        generalize l[j - 1].who = y at *
        have hw1 : IntKind.i64.wrap ((j : Int) - 1) = ((j - 1 : Nat) : Int) := by rw [IntWalk.i64_in _ (by omega)]; omega
        have hj1i : ((j - 1 : Nat) : Int) < (l.length : Int) := by omega
        go_wp2_with fail
        refine wp_region_tail 33 (by kernel_rfl) (by kernel_rfl) ?_
        simp only [List.take_succ_cons, List.take_zero, List.drop_succ_cons, List.drop_zero]
        repeat (go_big_quiet_step (fail))
        refine wpQuiet_nil ?_
        go_wp2_with fail
        refine (rneed_any _ _ g _ hW4.drew).mono ?_
        rintro e w5 ⟨rfl, hW5, hT5⟩
        go_wp2_with fail
        go_roundw
        case rel => exact ⟨j + 1, by go_num, by omega, HF.out _ _ (by grind) hW5, (hT.trans hT34).drew.trans hT5⟩
        case measure => simp [intOf]; omega
      · have h3d : decide ((0 : Int) < (j : Int)) = false := decide_eq_false (by omega)
        go_wp2_with fail
        refine wp_region_tail 33 (by kernel_rfl) (by kernel_rfl) ?_
        simp only [List.take_succ_cons, List.take_zero, List.drop_succ_cons, List.drop_zero]
        repeat (go_big_quiet_step (fail))
        refine wpQuiet_nil ?_
        go_wp2_with fail
        refine (rneed_any _ _ g _ hW4.drew).mono ?_
        rintro e w5 ⟨rfl, hW5, hT5⟩
        go_wp2_with fail
        go_roundw
        case rel => exact ⟨j + 1, by go_num, by omega, HF.out _ _ (by grind) hW5, (hT.trans hT34).drew.trans hT5⟩
        case measure => simp [intOf]; omega
    · have hji : ¬ (j : Int) < (l.length : Int) := by omega
      have hjl : j = l.length := by omega
      subst hjl
      rw [List.take_of_length_le (Nat.le_refl _)] at hW
      go_wp2
      go_end0
      exact ⟨rfl, hE.out _ hW, hT⟩
end Go.Proofs.Ytjjkdmngmopjbaa
