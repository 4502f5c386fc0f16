/- What bench.Turn and the reference's Turn compute. -/
import Derived.Test.YtdgifhgiablgdaaProg
import Derived.Test.YtdgifhgiablgdaaTurnP
import Derived.Deep.OwnRows
import Derived.Deep.RegionHeld3
import Derived.Deep.DeepCutAuto
namespace Go.Proofs.Ytdgifhgiablgdaa
open Go.RowKit
/-- the seats l are there, and the world is at least so great -/
def SeatsAt (B : Nat) (A : Option Addr) (l : List Seat) (W : World) : Prop := Seats W B A l ∧ B ≤ W.heap.size
theorem SeatsAt.drew {B : Nat} {A : Option Addr} {l : List Seat} {W : World} (h : SeatsAt B A l W) : SeatsAt B A l W.drew := ⟨h.1.drew, h.2⟩
theorem SeatsAt.alloc {B : Nat} {A : Option Addr} {l : List Seat} {W : World} (h : SeatsAt B A l W) (o : Obj) : SeatsAt B A l (W.alloc o) := ⟨Rd.alloc h.1 h.2 o, by have := h.2; simp; omega⟩
theorem SeatsAt.below {B : Nat} {A : Option Addr} {l : List Seat} {W W' : World} (h : SeatsAt B A l W) (hb : Below W.heap.size W W') : SeatsAt B A l W' := ⟨Rd.below h.1 (hb.mono h.2), Nat.le_trans h.2 hb.size⟩
theorem SeatsAt.and_left {B : Nat} {A : Option Addr} {l : List Seat} {W : World} (h : SeatsAt B A l W) : Seats W B A l := h.1
theorem SeatsAt.and_right {B : Nat} {A : Option Addr} {l : List Seat} {W : World} (h : SeatsAt B A l W) : B ≤ W.heap.size := h.2
theorem total_at {B : Nat} {A : Option Addr} {l : List Seat} {W : World} {c : Nat} (h : SeatsAt B A l W) (hl : l.length ≤ maxLen) : Calls Try.prog 83 #[.slice A l.length c] W fun e w' => e = .returned (.int .i64 (total l)) ∧ Below W.heap.size W w' := total_any l A c B W h.1 h.2 hl
def turnS (l : List Seat) (t : Int) : Int := if fits l = true ∧ 0 ≤ t ∧ t ≤ 65535 then (l.getD (leader l t.toNat) ⟨0, 0⟩).who else 0
theorem fitsFrom_ok (l : List Seat) (last : Int) (h : fitsFrom last l = true) : ∀ s ∈ l, seatOk s = true := by
  induction l generalizing last with
  | nil => simp
  | cons x l ih =>
    simp only [fitsFrom, Bool.and_eq_true] at h
    intro s hs
    simp at hs
    rcases hs with rfl | hs
    · exact h.1.1
    · exact ih _ h.2 s hs
theorem fits_ok {l : List Seat} (h : fits l = true) : 1 ≤ l.length ∧ l.length ≤ 7 ∧ ∀ s ∈ l, 1 ≤ s.weight ∧ s.weight ≤ 1099511627775 := by
  simp only [fits, Bool.and_eq_true, decide_eq_true_eq] at h
  refine ⟨h.1.2, h.2, fun s hs => ?_⟩
  have := fitsFrom_ok l 0 h.1.1 s hs
  simp only [seatOk, Bool.and_eq_true, decide_eq_true_eq] at this
  omega
theorem tsum_bd' (l : List Seat) (h : ∀ s ∈ l, 1 ≤ s.weight ∧ s.weight ≤ 1099511627775) : (l.length : Int) ≤ tsum l ∧ tsum l ≤ 1099511627775 * (l.length : Int) := by
  induction l with
  | nil => simp [tsum]
  | cons s l ih =>
    have h1 := h s (by simp)
    have h2 := ih fun x hx => h x (by simp [hx])
    simp only [tsum, List.length_cons]
    omega
theorem total_fold' (l : List Seat) (h : ∀ s ∈ l, 1 ≤ s.weight ∧ s.weight ≤ 1099511627775) (acc : Int) (h0 : 0 ≤ acc) (h1 : acc + 1099511627775 * (l.length : Int) ≤ 1152921504606846976) : l.foldl (fun a s => wrap64 (a + s.weight)) acc = acc + tsum l := by
  induction l generalizing acc with
  | nil => simp [tsum]
  | cons s l ih =>
    have hs := h s (by simp)
    simp only [List.length_cons] at h1
    simp only [List.foldl_cons, tsum]
    rw [IntWalk.wrap64_in _ (by omega), ih (fun x hx => h x (by simp [hx])) _ (by omega) (by omega)]
    omega
theorem fits_total {l : List Seat} (h : fits l = true) : total l = tsum l ∧ 1 ≤ tsum l ∧ tsum l ≤ 7696581394425 := by
  obtain ⟨h1, h2, h3⟩ := fits_ok h
  have h4 := tsum_bd' l h3
  refine ⟨?_, by omega, by omega⟩
  unfold total
  rw [total_fold' l h3 0 (by omega) (by omega)]
  omega
theorem gain_bd {l : List Seat} (h : fits l = true) (m j : Nat) (hm : m ≤ 65536) : -1152921504606846976 ≤ gain l m j ∧ gain l m j ≤ 1152921504606846976 ∧ 0 ≤ wt l j ∧ wt l j ≤ 1099511627775 := by
  obtain ⟨h1, h2, h3⟩ := fits_ok h
  have h4 := fits_total h
  have hw : 0 ≤ wt l j ∧ wt l j ≤ 1099511627775 := by
    unfold wt
    by_cases hj : j < l.length
    · have := h3 l[j] (List.getElem_mem hj)
      simp [List.getD, hj]; omega
    · simp [List.getD, hj]
  have h5 := ledF_bd l m j
  have a1 : 0 ≤ (m : Int) * wt l j := Int.mul_nonneg (by omega) hw.1
  have a2 : (m : Int) * wt l j ≤ 65536 * 1099511627775 := Int.mul_le_mul (by omega) hw.2 hw.1 (by omega)
  have a3 : 0 ≤ ledF l m j * tsum l := Int.mul_nonneg h5.1 (by omega)
  have a4 : ledF l m j * tsum l ≤ 65536 * 7696581394425 := Int.mul_le_mul (by omega) h4.2.2 (by omega) (by omega)
  unfold gain
  omega
set_option maxRecDepth 100000 in
theorem turn_no (l : List Seat) (A : Option Addr) (c B : Nat) (w : World) (t : Int) (h : Seats w B A l) (hB : B ≤ w.heap.size) (hl : l.length ≤ maxLen) (hn : ¬ (fits l = true ∧ 0 ≤ t ∧ t ≤ 65535)) :
    Calls Try.prog 22 #[.slice A l.length c, .int .i64 t] w fun e w' => e = .returned (.int .i64 0) ∧ Below w.heap.size w w' := by
  have hn' : fits l = false ∨ t < 0 ∨ 65535 < t := by
    rcases hf : fits l with _ | _
    · exact .inl rfl
    · right
      by_cases h0 : 0 ≤ t
      · exact .inr (by have : ¬ t ≤ 65535 := fun h1 => hn ⟨hf, h0, h1⟩; omega)
      · exact .inl (by omega)
  clear hn
  rcases hn' with hf | hf | hf
  all_goals
    go_enter Try.func22, Try.ntmps22
    go_wp2_with (go_at_call 84; refine (fits_any l A c B w h hB hl).mono ?_; rintro e w1 ⟨rfl, hb1⟩)
    all_goals
      go_ret
      exact ⟨rfl, hb1⟩
set_option maxRecDepth 100000 in
set_option maxHeartbeats 1000000 in
theorem turn_yes (l : List Seat) (A : Option Addr) (c B : Nat) (w : World) (t : Int) (h : Seats w B A l) (hB : B ≤ w.heap.size) (hf : fits l = true) (h0 : 0 ≤ t) (h1 : t ≤ 65535) :
    Calls Try.prog 22 #[.slice A l.length c, .int .i64 t] w fun e w' => e = .returned (.int .i64 (l.getD (leader l t.toNat) ⟨0, 0⟩).who) ∧ Below w.heap.size w w' := by
  have hok := fits_ok hf
  have hpos := hok.1
  have hle := hok.2.1
  have htot := fits_total hf
  have hmk := run_make_row' (P := Try.prog) 28 3 (.int .i64 0) 8 Try.underlying28 (by kernel_rfl) rfl .i64 .i64 l.length (by omega) (by omega)
  have htl := fun W hS hW => (total_any l A c B W hS hW (by simp [maxLen]; omega))
  have HT := Lib.hid htot.1
  have HF := Lib.hid hf
  clear htl
  go_enter Try.func22, Try.ntmps22
  go_wp2_with (go_at_call 84; refine (fits_any l A c B w h hB (by simp [maxLen]; omega)).mono ?_; rintro e w1 ⟨rfl, hb1⟩)
  have hlm : l.length ≤ maxLen := by simp [maxLen]; omega
  have g9 : decide (65535 < t) = false := by simp; omega
  have hS1 : Seats w1 w1.heap.size A l := ((Rd.more h hB).below hb1).more hb1.size
  have hsz1 := hb1.size
  go_cut [5, 6, 7] (fun g tt a wc => ∃ gb : Nat, g = .slice (some ⟨gb, 0, none⟩) l.length l.length ∧ wc.rowIs gb 3 l.length (fun _ => .int .i64 0) ∧ w.heap.size ≤ gb ∧ tt = .int .i64 (tsum l) ∧ a = .int .i64 0 ∧ Below w.heap.size w wc)
  case first =>
    have hSA : SeatsAt w1.heap.size A l w1 := ⟨hS1, Nat.le_refl _⟩
    go_region_held3 (fun W => SeatsAt w1.heap.size A l W) (first | assumption | exact SeatsAt.drew (by assumption) | exact SeatsAt.alloc (by assumption) _ | exact SeatsAt.alloc (SeatsAt.drew (by assumption)) _ | exact SeatsAt.below (by assumption) (by assumption))
      (first | (go_at_call 83; refine (total_at (by assumption) hlm).mono ?_; rintro e w2 ⟨rfl, hb2⟩))
    all_goals
      go_wp2_with fail
      go_meet
      first
          | exact ⟨w1.heap.size, rfl, (World.rowIs_made w1 (.int .i64 0) l.length 3).of_block (hb2.block _ (by simp)), hsz1, rfl, rfl, (hb1.alloc hsz1 _).drew.trans (hb2.mono (by simp; omega))⟩
          | exact ⟨w2.heap.size, rfl, World.rowIs_made w2 (.int .i64 0) l.length 3, Nat.le_trans hsz1 hb2.size, rfl, rfl, (hb1.drew.trans (hb2.mono hsz1)).alloc (Nat.le_trans hsz1 hb2.size) _⟩
  case rest =>
    obtain ⟨gb, rfl, hrow, hgb, rfl, rfl, hbc⟩ := hcut
    have HGB := gain_bd hf
    have h7 := htot.2.2
    have h71 := htot.2.1
    clear htot hb1 hS1 hsz1 HT hf hmk
    have hw : IntKind.i64.wrap (t + 1) = t + 1 := IntWalk.i64_in _ (by omega)
    go_wp2
    go_loopw [7, 28] (fun a i wr => ∃ m : Nat, (m : Int) ≤ t + 1 ∧ i = .int .i64 m ∧ (0 < m → a = .int .i64 (leader l (m - 1))) ∧ wr.rowIs gb 3 l.length (fun j => .int .i64 (gain l m j)) ∧ Below w.heap.size w wr) (fun _ i _ => (t + 1 - intOf i).toNat)
    case atStart => exact ⟨0, by omega, rfl, fun h => absurd h (by omega), hrow.congr fun j _ => by rw [gain_zero], hbc⟩
    case round =>
      obtain ⟨m, hm, rfl, ha, hrow, hbr⟩ := hrel
      have HA := Lib.hid ha
      clear ha
      by_cases hmt : (m : Int) < t + 1
      · have hszr := hbr.size
        have hgb := hgb
        go_wp2
        obtain ⟨wo, rfl⟩ : ∃ wo : World, wo = wr := ⟨_, rfl⟩
        go_loopw [7, 32] (fun a i wr => ∃ k : Nat, k ≤ l.length ∧ i = .int .i64 k ∧ a = .int .i64 (argTo (fun j => gain l m j + wt l j) k) ∧ wr.rowIs gb 3 l.length (fun j => .int .i64 (if j < k then gain l m j + wt l j else gain l m j)) ∧ Below w.heap.size w wr) (fun _ i _ => l.length - (intOf i).toNat)
        case atStart => exact ⟨0, by omega, rfl, rfl, hrow.congr fun j _ => by simp, hbr⟩
        case round =>
          obtain ⟨k, hk, rfl, rfl, hrow', hbk⟩ := hrel
          have hszk := hbk.size
          have hgl := hrow'.lt
          by_cases hkl : k < l.length
          · obtain ⟨b, off, rfl, hbB, hc0, hc1⟩ := Seats.at_ (h.below (hbk.mono hB)) hkl
            have hwk := wt_at l k hkl
            have hgk := HGB m k (by omega)
            rw [hwk] at hgk
            have hki : (k : Int) < (l.length : Int) := by omega
            have hg0 : ∀ o, (wr.alloc o).cell? ⟨gb, k, none⟩ = some (.int .i64 (gain l m k)) := fun o => ((hrow'.alloc o).cell hkl).trans (by simp)
            have hf0 : ∀ o, (wr.alloc o).frozen? ⟨gb, k, none⟩ = false := fun o => (hrow'.alloc o).frozen k
            have HW := Lib.hid hwk
            clear hwk
            go_wp2
            go_region
            go_wp2_with fail
            have hR2 : ((wr.setCell ⟨gb, k, none⟩ (.int .i64 (gain l m k + l[k].weight))).alloc (.cells #[.int .i64 l[k].who, .int .i64 l[k].weight] 31)).drew.rowIs gb 3 l.length (fun j => .int .i64 (if j < k + 1 then gain l m j + wt l j else gain l m j)) :=
              ((hrow'.set k _).alloc _).drew.congr fun j hj => by
                by_cases e : j = k
                · subst e; rw [if_pos rfl, if_pos (by omega), HW.out]
                · rw [if_neg e]
                  by_cases e2 : j < k
                  · rw [if_pos e2, if_pos (by omega)]
                  · rw [if_neg e2, if_neg (by omega)]
            have hB2 : Below w.heap.size w ((wr.setCell ⟨gb, k, none⟩ (.int .i64 (gain l m k + l[k].weight))).alloc (.cells #[.int .i64 l[k].who, .int .i64 l[k].weight] 31)).drew := ((hbk.setCell hgb _).alloc (by simp [World.setCell]; omega) _).drew
            generalize ((wr.setCell ⟨gb, k, none⟩ (.int .i64 (gain l m k + l[k].weight))).alloc (.cells #[.int .i64 l[k].who, .int .i64 l[k].weight] 31)).drew = W2 at hR2 hB2 ⊢
            have hat : argTo (fun j => gain l m j + wt l j) k < k + 1 := by
              rcases Nat.eq_zero_or_pos k with e | e
              · rw [e]; simp [argTo]
              · have := argTo_lt (fun j => gain l m j + wt l j) k e; omega
            have HST : Hid (argTo (fun j => gain l m j + wt l j) (k + 1) = if gain l m (argTo (fun j => gain l m j + wt l j) k) + wt l (argTo (fun j => gain l m j + wt l j) k) < gain l m k + wt l k then k else argTo (fun j => gain l m j + wt l j) k) := rfl
            generalize argTo (fun j => gain l m j + wt l j) k = q at *
            have hq1 := hR2.cell (i := k) hkl
            have hq2 := hR2.cell (i := q) (by omega)
            rw [if_pos (by omega)] at hq1 hq2
            have hqi : (q : Int) < (l.length : Int) := by omega
            clear hg0 hf0 hgk
            by_cases hgt : gain l m q + wt l q < gain l m k + wt l k
            · go_quiet (fail)
              go_wp2
              go_roundw
              case rel => exact ⟨k + 1, by omega, by go_num, by rw [HST.out, if_pos hgt], hR2, hB2.drewN _⟩
              case measure => simp [intOf]; omega
            · go_quiet (fail)
              go_wp2
              go_roundw
              case rel => exact ⟨k + 1, by omega, by go_num, by rw [HST.out, if_neg (by omega)], hR2, hB2.drewN _⟩
              case measure => simp [intOf]; omega
          · have HK : Hid (k = l.length) := show k = l.length by omega
            have HLd : Hid (leader l m = argTo (fun j => gain l m j + wt l j) k) := by show _ = _; rw [leader_gain, HK.out]
            have hlt := leader_lt l m (by omega)
            have hrow2 := hrow'.congr (g := fun j => Value.int .i64 (gain l m j + wt l j)) fun j hj => by rw [if_pos (by omega)]
            rw [HLd.out] at hlt
            generalize argTo (fun j => gain l m j + wt l j) k = q at *
            have hc := hrow2.cell (i := q) hlt
            have hfz := hrow2.frozen q
            have hgq := HGB m q (by omega)
            have hqi : (q : Int) < (l.length : Int) := by omega
            clear hrow'
            go_wp2
            go_roundw
            case rel =>
              refine ⟨m + 1, by omega, by go_num, fun _ => by rw [Nat.add_sub_cancel, HLd.out], (hrow2.set q _).congr fun j hj => ?_, hbk.setCell hgb _⟩
              rw [gain_succ, HLd.out]
              by_cases e : j = q
              · subst e; rw [if_pos rfl, if_pos rfl]
              · rw [if_neg e, if_neg e]; congr 1; omega
            case measure => simp [intOf]; omega
      · have hmt' : (m : Int) = t + 1 := by omega
        have hmp : 0 < m := by omega
        have hlead := leader_lt l (m - 1) (by omega)
        have ha := HA.out hmp
        subst ha
        have HM : Hid (m - 1 = t.toNat) := show m - 1 = t.toNat by omega
        obtain ⟨b, off, rfl, hbB, hc0, hc1⟩ := Seats.at_ (h.below (hbr.mono hB)) hlead
        have HG : Hid ((l.getD (leader l t.toNat) ⟨0, 0⟩).who = l[leader l (m - 1)].who) := by show _ = _; rw [← HM.out]; simp [List.getD, hlead]
        have hli : (leader l (m - 1) : Int) < (l.length : Int) := by omega
        clear hmt'
        go_wp2
        go_ret
        exact ⟨ret_int HG.out.symm, hbr⟩

theorem turn_any (l : List Seat) (A : Option Addr) (c B : Nat) (w : World) (t : Int) (h : Seats w B A l) (hB : B ≤ w.heap.size) (hl : l.length ≤ maxLen) :
    Calls Try.prog 22 #[.slice A l.length c, .int .i64 t] w fun e w' => e = .returned (.int .i64 (turnS l t)) ∧ Below w.heap.size w w' := by
  by_cases hc : fits l = true ∧ 0 ≤ t ∧ t ≤ 65535
  · refine (turn_yes l A c B w t h hB hc.1 hc.2.1 hc.2.2).mono fun e w' he => ?_
    refine ⟨he.1.trans (ret_int ?_), he.2⟩
    unfold turnS; rw [if_pos hc]
  · refine (turn_no l A c B w t h hB hl hc).mono fun e w' he => ?_
    refine ⟨he.1.trans (ret_int ?_), he.2⟩
    unfold turnS; rw [if_neg hc]
set_option maxRecDepth 100000 in
theorem rturn_no (l : List Seat) (A : Option Addr) (c B : Nat) (w : World) (t : Int) (h : Seats w B A l) (hB : B ≤ w.heap.size) (hl : l.length ≤ maxLen) (hn : ¬ (fits l = true ∧ 0 ≤ t ∧ t ≤ 65535)) :
    Calls Try.prog 23 #[.slice A l.length c, .int .i64 t] w fun e w' => e = .returned (.int .i64 0) ∧ Below w.heap.size w w' := by
  have hn' : fits l = false ∨ t < 0 ∨ 65535 < t := by
    rcases hf : fits l with _ | _
    · exact .inl rfl
    · right
      by_cases h0 : 0 ≤ t
      · exact .inr (by have : ¬ t ≤ 65535 := fun h1 => hn ⟨hf, h0, h1⟩; omega)
      · exact .inl (by omega)
  clear hn
  rcases hn' with hf | hf | hf
  all_goals
    go_enter Try.func23, Try.ntmps23
    go_wp2_with (go_at_call 85; refine (rfits_any l A c B w h hB hl).mono ?_; rintro e w1 ⟨rfl, hb1⟩)
    all_goals
      go_ret
      exact ⟨rfl, hb1⟩
theorem prod_bd {l : List Seat} (h : fits l = true) (m j : Nat) (hm : m ≤ 65536) : (0 ≤ ((m : Int) + 1) * wt l j ∧ ((m : Int) + 1) * wt l j ≤ 1152921504606846976) ∧ 0 ≤ ledF l m j * tsum l ∧ ledF l m j * tsum l ≤ 1152921504606846976 := by
  have hw := (gain_bd h m j hm).2.2
  have h4 := fits_total h
  have h5 := ledF_bd l m j
  have a1 : 0 ≤ ((m : Int) + 1) * wt l j := Int.mul_nonneg (by omega) hw.1
  have a2 : ((m : Int) + 1) * wt l j ≤ 65537 * 1099511627775 := Int.mul_le_mul (by omega) hw.2 hw.1 (by omega)
  have a3 : 0 ≤ ledF l m j * tsum l := Int.mul_nonneg h5.1 (by omega)
  have a4 : ledF l m j * tsum l ≤ 65536 * 7696581394425 := Int.mul_le_mul (by omega) h4.2.2 (by omega) (by omega)
  omega
theorem argTo_one (f : Nat → Int) : argTo f 1 = 0 := by simp [argTo]
set_option maxRecDepth 100000 in
set_option maxHeartbeats 1000000 in
theorem rturn_yes (l : List Seat) (A : Option Addr) (c B : Nat) (w : World) (t : Int) (h : Seats w B A l) (hB : B ≤ w.heap.size) (hf : fits l = true) (h0 : 0 ≤ t) (h1 : t ≤ 65535) :
    Calls Try.prog 23 #[.slice A l.length c, .int .i64 t] w fun e w' => e = .returned (.int .i64 (l.getD (leader l t.toNat) ⟨0, 0⟩).who) ∧ Below w.heap.size w w' := by
  have hok := fits_ok hf
  have hpos := hok.1
  have hle := hok.2.1
  have htot := fits_total hf
  have hmk := run_make_row' (P := Try.prog) 28 3 (.int .i64 0) 8 Try.underlying28 (by kernel_rfl) rfl .i64 .i64 l.length (by omega) (by omega)
  have HPB := prod_bd hf
  have h7 := htot.2.2
  have h71 := htot.2.1
  have HT := Lib.hid htot.1
  have hlm : l.length ≤ maxLen := by simp [maxLen]; omega
  have g9 : decide (65535 < t) = false := by simp; omega
  clear htot
  go_enter Try.func23, Try.ntmps23
  go_wp2_with (first
    | (go_at_call 85; refine (rfits_any l A c B w h hB hlm).mono ?_; rintro e w1 ⟨rfl, hb1⟩)
    | (go_at_call 24; refine (rtotal_any l A c B w1 (Rd.below h (hb1.mono hB)) (Nat.le_trans hB hb1.size) hlm).mono ?_; rintro e w2 ⟨rfl, hb2⟩))
  have hsz1 := hb1.size
  have hsz2 := hb2.size
  have hb12 : Below w.heap.size w w2 := hb1.trans (hb2.mono hsz1)
  rw [HT.out]
  go_loopw [8, 9] (fun a i wr => ∃ m : Nat, (m : Int) ≤ t + 1 ∧ i = .int .i64 m ∧ (0 < m → a = .int .i64 (leader l (m - 1))) ∧ wr.rowIs w2.heap.size 3 l.length (fun j => .int .i64 (ledF l m j)) ∧ Below w.heap.size w wr) (fun _ i _ => (t + 1 - intOf i).toNat)
  case atStart => exact ⟨0, by omega, rfl, fun h => absurd h (by omega), World.rowIs_made w2 (.int .i64 0) l.length 3, hb12.alloc hb12.size _⟩
  case round =>
    obtain ⟨m, hm, rfl, ha, hrow, hbr⟩ := hrel
    have HA := Lib.hid ha
    clear ha
    by_cases hmt : (m : Int) ≤ t
    · have hszr := hbr.size
      go_wp2
      obtain ⟨wo, rfl⟩ : ∃ wo : World, wo = wr := ⟨_, rfl⟩
      go_loopw [8, 10] (fun a i wr => ∃ k : Nat, 1 ≤ k ∧ k ≤ l.length ∧ i = .int .i64 k ∧ a = .int .i64 (argTo (fun j => ((m : Int) + 1) * wt l j - ledF l m j * tsum l) k) ∧ wr.rowIs w2.heap.size 3 l.length (fun j => .int .i64 (ledF l m j)) ∧ Below w.heap.size w wr) (fun _ i _ => l.length - (intOf i).toNat)
      case atStart => exact ⟨1, by omega, by omega, rfl, by rw [argTo_one]; rfl, hrow, hbr⟩
      case round =>
        obtain ⟨k, hk1, hk, rfl, rfl, hrow', hbk⟩ := hrel
        have hszk := hbk.size
        by_cases hkl : k < l.length
        · have hat := argTo_lt (fun j => ((m : Int) + 1) * wt l j - ledF l m j * tsum l) k hk1
          have HST : Hid (argTo (fun j => ((m : Int) + 1) * wt l j - ledF l m j * tsum l) (k + 1) = if ((m : Int) + 1) * wt l (argTo (fun j => ((m : Int) + 1) * wt l j - ledF l m j * tsum l) k) - ledF l m (argTo (fun j => ((m : Int) + 1) * wt l j - ledF l m j * tsum l) k) * tsum l < ((m : Int) + 1) * wt l k - ledF l m k * tsum l then k else argTo (fun j => ((m : Int) + 1) * wt l j - ledF l m j * tsum l) k) := rfl
          generalize argTo (fun j => ((m : Int) + 1) * wt l j - ledF l m j * tsum l) k = q at *
          have hql : q < l.length := by omega
          obtain ⟨b, off, rfl, hbB, hc0, hc1⟩ := Seats.at_ (h.below (hbk.mono hB)) hkl
          obtain ⟨b', off', e, _, hd0, hd1⟩ := Seats.at_ (h.below (hbk.mono hB)) hql
          simp only [Option.some.injEq, Addr.mk.injEq, and_true] at e
          obtain ⟨rfl, rfl⟩ := e
          have r1 := hrow'.cell (i := k) hkl
          have r2 := hrow'.cell (i := q) hql
          have p1 := HPB m k (by omega)
          have p2 := HPB m q (by omega)
          have w1' := wt_at l k hkl
          have w2' := wt_at l q hql
          rw [w1'] at p1 HST
          rw [w2'] at p2 HST
          have e0 : IntKind.i64.wrap ((m : Int) + 1) = (m : Int) + 1 := IntWalk.i64_in _ (by omega)
          have e1 : IntKind.i64.wrap (((m : Int) + 1) * l[k].weight) = ((m : Int) + 1) * l[k].weight := IntWalk.i64_in _ (by omega)
          have e2 : IntKind.i64.wrap (((m : Int) + 1) * l[q].weight) = ((m : Int) + 1) * l[q].weight := IntWalk.i64_in _ (by omega)
          have e3 : IntKind.i64.wrap (ledF l m k * tsum l) = ledF l m k * tsum l := IntWalk.i64_in _ (by omega)
          have e4 : IntKind.i64.wrap (ledF l m q * tsum l) = ledF l m q * tsum l := IntWalk.i64_in _ (by omega)
          have e5 : IntKind.i64.wrap (((m : Int) + 1) * l[k].weight - ledF l m k * tsum l) = ((m : Int) + 1) * l[k].weight - ledF l m k * tsum l := IntWalk.i64_in _ (by omega)
          have e6 : IntKind.i64.wrap (((m : Int) + 1) * l[q].weight - ledF l m q * tsum l) = ((m : Int) + 1) * l[q].weight - ledF l m q * tsum l := IntWalk.i64_in _ (by omega)
          have hki : (k : Int) < (l.length : Int) := by omega
          have hqi : (q : Int) < (l.length : Int) := by omega
          clear w1' w2' hmk
          by_cases hgt : ((m : Int) + 1) * l[q].weight - ledF l m q * tsum l < ((m : Int) + 1) * l[k].weight - ledF l m k * tsum l
          · go_wp2
            go_quiet (fail)
            go_wp2
            go_roundw
            case rel => exact ⟨k + 1, by omega, by omega, by go_num, by rw [HST.out, if_pos hgt], hrow', hbk.drewN _⟩
            case measure => simp [intOf]; omega
          · go_wp2
            go_quiet (fail)
            go_wp2
            go_roundw
            case rel => exact ⟨k + 1, by omega, by omega, by go_num, by rw [HST.out, if_neg (by omega)], hrow', hbk.drewN _⟩
            case measure => simp [intOf]; omega
        · have HK : Hid (k = l.length) := show k = l.length by omega
          have HLd : Hid (leader l m = argTo (fun j => ((m : Int) + 1) * wt l j - ledF l m j * tsum l) k) := by show _ = _; rw [leader_eq, HK.out]
          have hlt := leader_lt l m (by omega)
          rw [HLd.out] at hlt
          generalize argTo (fun j => ((m : Int) + 1) * wt l j - ledF l m j * tsum l) k = q at *
          have hc := hrow'.cell (i := q) hlt
          have hfz := hrow'.frozen q
          have hlb := ledF_bd l m q
          have hqi : (q : Int) < (l.length : Int) := by omega
          go_wp2
          go_roundw
          case rel =>
            refine ⟨m + 1, by omega, by go_num, fun _ => by rw [Nat.add_sub_cancel, HLd.out], (hrow'.set q _).congr fun j hj => ?_, hbk.setCell (Nat.le_trans hsz1 hsz2) _⟩
            rw [ledF_succ, HLd.out]
            by_cases e : j = q
            · subst e; rw [if_pos rfl, if_pos rfl]
            · rw [if_neg e, if_neg e]; congr 1; omega
          case measure => simp [intOf]; omega
    · have hmt' : (m : Int) = t + 1 := by omega
      have hmp : 0 < m := by omega
      have hlead := leader_lt l (m - 1) (by omega)
      have ha := HA.out hmp
      subst ha
      have HM : Hid (m - 1 = t.toNat) := show m - 1 = t.toNat by omega
      obtain ⟨b, off, rfl, hbB, hc0, hc1⟩ := Seats.at_ (h.below (hbr.mono hB)) hlead
      have HG : Hid ((l.getD (leader l t.toNat) ⟨0, 0⟩).who = l[leader l (m - 1)].who) := by show _ = _; rw [← HM.out]; simp [List.getD, hlead]
      have hli : (leader l (m - 1) : Int) < (l.length : Int) := by omega
      clear hmt'
      go_wp2
      go_ret
      exact ⟨ret_int HG.out.symm, hbr⟩
theorem rturn_any (l : List Seat) (A : Option Addr) (c B : Nat) (w : World) (t : Int) (h : Seats w B A l) (hB : B ≤ w.heap.size) (hl : l.length ≤ maxLen) :
    Calls Try.prog 23 #[.slice A l.length c, .int .i64 t] w fun e w' => e = .returned (.int .i64 (turnS l t)) ∧ Below w.heap.size w w' := by
  by_cases hc : fits l = true ∧ 0 ≤ t ∧ t ≤ 65535
  · refine (rturn_yes l A c B w t h hB hc.1 hc.2.1 hc.2.2).mono fun e w' he => ?_
    refine ⟨he.1.trans (ret_int ?_), he.2⟩
    unfold turnS; rw [if_pos hc]
  · refine (rturn_no l A c B w t h hB hl hc).mono fun e w' he => ?_
    refine ⟨he.1.trans (ret_int ?_), he.2⟩
    unfold turnS; rw [if_neg hc]
end Go.Proofs.Ytdgifhgiablgdaa
