/- The law BenchTurns: who leads in a turn is the reference's answer; in as many turns as all weigh each leads as often as it weighs. No condition. -/
import Derived.Test.YtdgifhgiablgdaaRows
import Derived.Test.YtdgifhgiablgdaaTurn0
import Derived.Test.YtdgifhgiablgdaaFrame
import Derived.Test.YtdgifhgiablgdaaOpenT
namespace Go.Proofs.Ytdgifhgiablgdaa
open Go.RowKit
theorem fitsFrom_bench (x : List Seat) (last : Int) (hs : Sorted x) (hl : ∀ s ∈ x, last < s.who) (h1 : ∀ s ∈ x, 1 ≤ s.who ∧ s.who ≤ 12) (h2 : ∀ s ∈ x, 1 ≤ s.weight ∧ s.weight ≤ 40) : fitsFrom last x = true := by
  induction x generalizing last with
  | nil => rfl
  | cons s x ih =>
    have hc := List.pairwise_cons.1 hs
    have a1 := h1 s (by simp)
    have a2 := h2 s (by simp)
    have a3 := hl s (by simp)
    simp only [fitsFrom, Bool.and_eq_true, decide_eq_true_eq]
    refine ⟨⟨?_, a3⟩, ih s.who hc.2 hc.1 (fun y hy => h1 y (by simp [hy])) (fun y hy => h2 y (by simp [hy]))⟩
    simp [seatOk]; omega
theorem Bench.fits {x : List Seat} (h : Bench x) : fits x = true := by
  simp only [Go.Proofs.Ytdgifhgiablgdaa.fits, Bool.and_eq_true, decide_eq_true_eq]
  exact ⟨⟨fitsFrom_bench x 0 h.sorted (fun s hs => by have := h.who s hs; omega) h.who h.weight, h.pos⟩, h.most⟩
theorem Bench.distinct {x : List Seat} (h : Bench x) (i j : Nat) (hi : i < x.length) (hj : j < x.length) (e : x[i].who = x[j].who) : i = j := by
  have hs := h.sorted
  unfold Sorted at hs
  rw [List.pairwise_iff_getElem] at hs
  rcases Nat.lt_trichotomy i j with h1 | h1 | h1
  · have := hs i j hi hj h1; omega
  · exact h1
  · have := hs j i hj hi h1; omega
set_option maxRecDepth 100000 in
set_option maxHeartbeats 1000000 in
theorem benchTurns_walk (l : List Seat) (t f : Int) (A : Option Addr) (c : Nat) (w : World) (h : Seats w w.heap.size A l) (hwide : Wide l) (hlm : l.length ≤ maxLen) (ht : -9223372036854775808 ≤ t) (hf : -9223372036854775808 ≤ f) :
    Calls Try.prog 5 #[.slice A l.length c, .int .i64 t, .int .i64 f] w fun e w' => e = .returned (.bool true) ∧ Below w.heap.size w w' := by
  by_cases hl : l.length ≤ 4096
  · have g1 : decide ((4096 : Int) < (l.length : Int)) = false := by simp; omega
    have HB := seatedS_ok l
    have gt : (turnS l t != turnS l t) = false := by simp
    go_enter Try.func5, Try.ntmps5
    go_wp2_with fail
    refine (turn_any l A c w.heap.size w t h (Nat.le_refl _) hlm).mono ?_
    rintro e w1 ⟨rfl, hb1⟩
    have hR1 : Seats w1 w1.heap.size A l := (Rd.below h hb1).more hb1.size
    go_wp2_with fail
    refine (rturn_any l A c w1.heap.size w1 t hR1 (Nat.le_refl _) hlm).mono ?_
    rintro e w2 ⟨rfl, hb2⟩
    have hR2 : Seats w2 w2.heap.size A l := (Rd.below hR1 hb2).more hb2.size
    have hB2 : Below w.heap.size w w2 := hb1.trans (hb2.mono hb1.size)
    go_wp2_with fail
    refine (seated_any l A c w2.heap.size w2 hR2 (Nat.le_refl _) hl hwide).mono ?_
    rintro e w3 ⟨v3, rfl, hown3, hb3⟩
    obtain ⟨AX, cX, rfl⟩ := own_shape hown3
    have hB3 : Below w.heap.size w w3 := hB2.trans (hb3.mono hB2.size)
    have hX : Seats w3 w3.heap.size AX (seatedS l) := Rd.of_own hown3
    clear hown3 gt
    generalize seatedS l = x at *
    have hxf := HB.fits
    have hx7 := HB.most
    have hxp := HB.pos
    have hxl : x.length ≤ maxLen := by simp [maxLen]; omega
    have htt := HB.total
    have HTT := Lib.hid htt.1
    have ht1 := htt.2.1
    have ht2 := htt.2.2
    have HXF := Lib.hid hxf
    have p0 := pickS_lo t 3000 (by omega)
    have p1 := pickS_hi t 3000 (by omega)
    have f0 := pickS_lo f 3 (by omega)
    have f1 := pickS_hi f 3 (by omega)
    clear htt hxf
    go_wp2_with fail
    refine (rtotal_any x AX cX w3.heap.size w3 hX (Nat.le_refl _) hxl).mono ?_
    rintro e w4 ⟨rfl, hb4⟩
    have hX4 : Seats w4 w4.heap.size AX x := (Rd.below hX hb4).more hb4.size
    have hB4 : Below w.heap.size w w4 := hB3.trans (hb4.mono hB3.size)
    rw [HTT.out]
    have gt : (turnS x (pickS t 3000) != turnS x (pickS t 3000)) = false := by simp
    go_wp2_with (first
      | (go_at_call 25; refine (pick_any _ _ _ (by omega) (by omega)).mono ?_; rintro e w' ⟨rfl, rfl⟩))
    refine (turn_any x AX cX w4.heap.size w4 _ hX4 (Nat.le_refl _) hxl).mono ?_
    rintro e w5 ⟨rfl, hb5⟩
    have hX5 : Seats w5 w5.heap.size AX x := (Rd.below hX4 hb5).more hb5.size
    have hB5 : Below w.heap.size w w5 := hB4.trans (hb5.mono hB4.size)
    go_wp2_with (first
      | (go_at_call 25; refine (pick_any _ _ _ (by omega) (by omega)).mono ?_; rintro e w' ⟨rfl, rfl⟩))
    refine (rturn_any x AX cX w5.heap.size w5 _ hX5 (Nat.le_refl _) hxl).mono ?_
    rintro e w6 ⟨rfl, hb6⟩
    have hX6 : Seats w6 w6.heap.size AX x := (Rd.below hX5 hb6).more hb6.size
    have hB6 : Below w.heap.size w w6 := hB5.trans (hb6.mono hB5.size)
    by_cases h60 : 60 < tsum x
    · go_wp2
      go_ret
      exact ⟨rfl, hB6⟩
    · have hmk := run_make_row' (P := Try.prog) 28 3 (.int .i64 0) 8 Try.underlying28 (by kernel_rfl) rfl .i64 .i64 x.length (by omega) (by omega)
      have q0 : 0 ≤ tsum x * pickS f 3 := Int.mul_nonneg (by omega) (by omega)
      have q1 : tsum x * pickS f 3 ≤ 60 * 2 := Int.mul_le_mul (by omega) (by omega) (by omega) (by omega)
      clear gt p0 p1
      go_wp2_with (first
        | (go_at_call 25; refine (pick_any _ _ _ (by omega) (by omega)).mono ?_; rintro e w' ⟨rfl, rfl⟩))
      obtain ⟨start, hst⟩ : ∃ s : Nat, (s : Int) = tsum x * pickS f 3 := ⟨(tsum x * pickS f 3).toNat, by omega⟩
      rw [← hst] at q0 q1 ⊢
      clear hst f0 f1
      obtain ⟨n, hn⟩ : ∃ n : Nat, (n : Int) = tsum x := ⟨(tsum x).toNat, by omega⟩
      have HN := Lib.hid hn
      rw [← hn] at ht1 ht2 h60 ⊢
      clear hn
      have hs60 : start ≤ 120 := by omega
      have hn60 : n ≤ 60 := by omega
      go_loopw [11, 12, 13] (fun i o1 o2 wr => ∃ m : Nat, m ≤ n ∧ i = .int .i64 m ∧ wr.rowIs w6.heap.size 3 x.length (fun j => .int .i64 (ledF x (start + m) j - ledF x start j)) ∧ Below w6.heap.size w6 wr) (fun i _ _ _ => n - (intOf i).toNat)
      case atStart => exact ⟨0, by omega, rfl, (World.rowIs_made w6 (.int .i64 0) x.length 3).congr fun j _ => by simp, (Below.refl _ _).alloc (Nat.le_refl _) _⟩
      case round =>
        obtain ⟨m, hm, rfl, hrow, hbr⟩ := hrel
        have hszr := hbr.size
        by_cases hmn : m < n
        · have hXr : Seats wr wr.heap.size AX x := (Rd.below hX6 hbr).more hszr
          go_wp2_with (first
            | (go_at_call 22; refine (turn_any x AX cX wr.heap.size wr _ hXr (Nat.le_refl _) hxl).mono ?_; rintro e w7 ⟨rfl, hb7⟩))
          have hld := leader_lt x (start + m) (by omega)
          have HT : Hid (turnS x ((start : Int) + (m : Int)) = x[leader x (start + m)].who) := by
            show _ = _
            unfold turnS
            rw [if_pos ⟨HXF.out, by omega, by omega⟩]
            have e : ((start : Int) + (m : Int)).toNat = start + m := by omega
            rw [e]; simp [List.getD, hld]
          rw [HT.out]
          have hrow7 := hrow.of_block (hb7.block _ hrow.lt)
          have hbr7 : Below w6.heap.size w6 w7 := hbr.trans (hb7.mono hszr)
          have HD := Lib.hid (HB.distinct)
          have HS : Hid (∀ j, ledF x (start + (m + 1)) j = ledF x (start + m) j + if j = leader x (start + m) then 1 else 0) := fun j => ledF_succ x (start + m) j
          generalize leader x (start + m) = q at *
          have hlb := fun j => ledF_bd x (start + m) j
          have hlb' := fun j => ledF_bd x start j
          clear hXr hb7 hrow hbr hszr
          obtain ⟨wo, rfl⟩ : ∃ wo : World, wo = w7 := ⟨_, rfl⟩
          go_loopw [13] (fun i wr => ∃ k : Nat, k ≤ x.length ∧ i = .int .i64 k ∧ wr.rowIs w6.heap.size 3 x.length (fun j => .int .i64 (ledF x (start + m) j - ledF x start j + if j < k ∧ j = q then 1 else 0)) ∧ Below w6.heap.size w6 wr) (fun i _ => x.length - (intOf i).toNat)
          case atStart => exact ⟨0, by omega, rfl, hrow7.congr fun j _ => by simp, hbr7⟩
          case round =>
            obtain ⟨k, hk, rfl, hrow, hbr⟩ := hrel
            have hszr := hbr.size
            by_cases hkl : k < x.length
            · obtain ⟨b, off, hA, _, hc0, hc1⟩ := Seats.at_ ((Rd.below hX6 hbr)) hkl
              subst hA
              have hki : (k : Int) < (x.length : Int) := by omega
              have hcell := hrow.cell (i := k) hkl
              have hfz := hrow.frozen k
              rw [if_neg (by omega)] at hcell
              have b1 := hlb k
              have b2 := hlb' k
              rw [Int.add_zero] at hcell
              by_cases hkq : k = q
              · subst hkq
                have hE : (x[k].who == x[k].who) = true := by simp
                go_wp2
                go_roundw
                case rel =>
                  refine ⟨k + 1, by omega, by go_num, (hrow.set k _).congr fun j hj => ?_, hbr.setCell (Nat.le_refl _) _⟩
                  by_cases e : j = k
                  · subst e; rw [if_pos rfl, if_pos ⟨by omega, rfl⟩]
                  · rw [if_neg e, if_neg (by omega), if_neg (by omega)]
                case measure => simp [intOf]; omega
              · have hE : (x[k].who == x[q].who) = false := by
                  simp only [beq_eq_false_iff_ne]
                  exact fun e => hkq (HD.out k q hkl hld e)
                go_wp2
                go_roundw
                case rel =>
                  refine ⟨k + 1, by omega, by go_num, hrow.congr fun j hj => ?_, hbr⟩
                  by_cases e : j = q
                  · by_cases e2 : j < k
                    · rw [if_pos ⟨e2, e⟩, if_pos ⟨by omega, e⟩]
                    · rw [if_neg (by omega), if_neg (by omega)]
                  · rw [if_neg (by omega), if_neg (by omega)]
                case measure => simp [intOf]; omega
            · go_wp2
              go_roundw
              case rel =>
                refine ⟨m + 1, by omega, by go_num, hrow.congr fun j hj => ?_, hbr⟩
                rw [HS.out]
                by_cases e : j = q
                · rw [if_pos ⟨by omega, e⟩, if_pos e]; congr 1; omega
                · rw [if_neg (by omega), if_neg e]; congr 1; omega
              case measure => simp [intOf]; omega
        · have HE : Hid (∀ j, j < x.length → ledF x (start + m) j - ledF x start j = wt x j) := fun j hj => by
            have e : m = n := by omega
            rw [e]
            have := HN.out
            exact led_turns x (by omega) (fun s hs => (HB.weight s hs).1) n (by omega) (by omega) start j hj
          have hrow2 := hrow.congr (g := fun j => Value.int .i64 (wt x j)) fun j hj => by rw [HE.out j hj]
          clear hrow HE
          go_wp2
          obtain ⟨wo, rfl⟩ : ∃ wo : World, wo = wr := ⟨_, rfl⟩
          go_loopw [14] (fun i wr => ∃ k : Nat, k ≤ x.length ∧ i = .int .i64 k ∧ wr.rowIs w6.heap.size 3 x.length (fun j => .int .i64 (wt x j)) ∧ Below w6.heap.size w6 wr) (fun i _ => x.length - (intOf i).toNat)
          case atStart => exact ⟨0, by omega, rfl, hrow2, hbr⟩
          case round =>
            obtain ⟨k, hk, rfl, hrow, hbr⟩ := hrel
            have hszr := hbr.size
            by_cases hkl : k < x.length
            · obtain ⟨b, off, hA, _, hc0, hc1⟩ := Seats.at_ ((Rd.below hX6 hbr)) hkl
              subst hA
              have hki : (k : Int) < (x.length : Int) := by omega
              have hcell := hrow.cell (i := k) hkl
              rw [wt_at x k hkl] at hcell
              go_wp2
              go_quiet (fail)
              go_wp2
              go_roundw
              case rel => exact ⟨k + 1, by omega, by go_num, hrow, hbr.drewN _⟩
              case measure => simp [intOf]; omega
            · go_wp2
              go_ret
              exact ⟨rfl, hB6.trans (hbr.mono hB6.size)⟩
  · go_enter Try.func5, Try.ntmps5
    go_wp2_with fail
    go_ret
    exact ⟨rfl, Below.refl _ _⟩

namespace benchTurns
open Go.ChangeShapes Go.WideShapes Go.ChangeAt Go.RowKit
set_option linter.unusedVariables false
set_option maxRecDepth 100000 in
theorem walk {H : Type} (enc : TypeId × Value → H) : LawWalk enc Try.prog Try.f5 5 := by
  intro W args ds p hA hval hlt hfz
  rw [Try.params5] at hA hval
  obtain ⟨v0, vs0, d0, ds0, p0, q0, hargs, rfl, rfl, h0, r0⟩ := trodAll_cons hA
  obtain ⟨v1, vs1, d1, ds1, p1, q1, rfl, rfl, rfl, h1, r1⟩ := trodAll_cons r0
  obtain ⟨v2, vs2, d2, ds2, p2, q2, rfl, rfl, rfl, h2, r2⟩ := trodAll_cons r1
  obtain ⟨rfl, rfl, rfl⟩ := trodAll_nil r2
  obtain rfl : args = #[v0, v1, v2] := by cases args; simp_all
  obtain ⟨A0, c0, l0, rfl, lc0, cm0, hl0, hw0⟩ := open_seats (hval 0 _ v0 rfl rfl) h0
  obtain ⟨a1, rfl, _, _, wa1⟩ := open_int Try.underlying3 (hval 1 _ v1 rfl rfl) h1
  obtain ⟨a2, rfl, _, _, wa2⟩ := open_int Try.underlying3 (hval 2 _ v2 rfl rfl) h2
  exact benchTurns_walk l0 a1 a2 A0 c0 W hl0 hw0 (Nat.le_trans lc0 cm0) (wf_i64 wa1).1 (wf_i64 wa2).1
set_option maxRecDepth 100000 in
theorem over : Rows.benchTurnsRow.holds Try.pinned (OpenSpec.ofChange Rows.benchTurnsSpec) :=
  OpenClaim.holds_of_wide 5 Try.f5 rfl rfl rfl rfl rfl rfl rfl ⟨rfl, rfl, rfl, rfl, rfl⟩ rfl rfl rfl rfl rfl (by kernel_rfl) Try.func5 (by kernel_rfl)
    (of_decide_eq_true (by kernel_rfl)) (by unfold Func.isWrapper; first | (rw [if_pos (by decide +kernel)]; kernel_rfl) | (rw [if_neg (by decide +kernel)]; exact ⟨rfl, rfl⟩))
    (fun os started H enc _ => law_lift (C := Try.checked) (s := Rows.benchTurnsSpec) (by kernel_rfl) started (by kernel_rfl) Try.func5 (by kernel_rfl) (by kernel_rfl) rfl rfl Try.underlying4
      (fun ds h => match ds, h with | [_, _, _], _ => rfl)
      (ChangeSpec.witness6 (enc := enc) (C := Try.checked) false ⟨#[], #[.slice none 0 0, .int .i64 0, .int .i64 0], []⟩ 8 (by kernel_rfl) (by kernel_rfl) (by kernel_rfl) (by kernel_rfl))
      (walk enc))
end benchTurns
/-- the statement -/
theorem benchTurns_holds : Rows.BenchTurnsSaid := benchTurns.over
#print axioms benchTurns_holds
end Go.Proofs.Ytdgifhgiablgdaa
