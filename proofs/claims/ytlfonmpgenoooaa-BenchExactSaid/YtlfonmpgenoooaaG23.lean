/- Of the texts Dig0. -/
import Derived.Test.YtlfonmpgenoooaaProg
import Derived.Test.YtlfonmpgenoooaaG01
import Derived.Test.YtlfonmpgenoooaaG05
import Derived.Deep.QuietTactic
import Derived.BigQuiet
import Derived.BigGuardPart
import Derived.OpenShut
import Derived.Deep.DeepCutAuto
set_option linter.unusedSimpArgs false
set_option linter.unusedVariables false
namespace Go.Proofs.Ytlfonmpgenoooaa
open Go.RowKit
def xr (a b : Int) : Int := bits .xor .u64 a b
def mulC (a : Int) : Int := IntKind.u64.wrap (a * 11400714819323198485)
theorem mulC_bd (a : Int) : 0 ≤ mulC a ∧ mulC a ≤ 18446744073709551615 := by unfold mulC; rw [IntKind.wrap_u64]; omega
theorem xr_bd (a b : Int) : 0 ≤ xr a b ∧ xr a b ≤ 18446744073709551615 := by
 have h := wf_bits .xor .u64 a b; simp [Lit.wf, IntKind.min, IntKind.max, IntKind.signed, IntKind.bits] at h; unfold xr; omega
def mixS (h b : Int) : Int := xr (mulC (xr h b)) (mulC (xr h b) / 4294967296)
theorem mixS_bd (h b : Int) : 0 ≤ mixS h b ∧ mixS h b ≤ 18446744073709551615 := xr_bd _ _
def mixText (h : Int) (l : List UInt8) : Int := l.foldl (fun h b => mixS h b.toNat) h
theorem mixText_snoc (h : Int) (l : List UInt8) (k : Nat) (hk : k < l.length) : mixText h (l.take (k + 1)) = mixS (mixText h (l.take k)) (l[k].toNat : Int) := by
 unfold mixText; rw [List.take_succ_eq_append_getElem hk, List.foldl_append]; rfl
theorem tdiv_u64 (x k : Int) (h : 0 ≤ x ∧ x ≤ 18446744073709551615) (hk : 1 ≤ k) : IntKind.u64.wrap (x.tdiv k) = x / k := by
 rw [Int.tdiv_eq_ediv_of_nonneg h.1]; have h1 : 0 ≤ x / k := Int.ediv_nonneg h.1 (by omega); have h2 : x / k ≤ x := Int.ediv_le_self _ h.1; exact IntWalk.u64_in _ (by omega)
theorem quo32 (a : Int) : IntKind.u64.wrap ((IntKind.u64.wrap (a * 11400714819323198485)).tdiv 4294967296) = mulC a / 4294967296 := tdiv_u64 _ _ (mulC_bd a) (by omega)
set_option maxRecDepth 100000 in
theorem byteOf_any (h b : Int) (w : World) (h0 : 0 ≤ b) (h1 : b ≤ 255) : Calls Try.prog 52 #[.int .u64 h, .int .u8 b] w fun e w' => e = .returned (.int .u64 (mixS h b)) ∧ w = w' := by
 go_enter Try.func52, Try.ntmps52; go_wp2; go_ret; exact ⟨ret_int (by rw [quo32]; rfl), rfl⟩
set_option maxRecDepth 100000 in
theorem add_any (h b : Int) (g : Nat) (T : TypeId) (w : World) (h0 : 0 ≤ b) (h1 : b ≤ 255) (hb : Blk w g T #[.int .u64 h]) : Calls Try.prog 47 #[.pointer (some ⟨g, 0, none⟩), .int .u8 b] w fun e w' => e = .returned (.tuple #[]) ∧ w.setCell ⟨g, 0, none⟩ (.int .u64 (mixS h b)) = w' := by
 have hc := hb.cell 0; have hf := hb.frozen 0; go_enter Try.func47, Try.ntmps47; go_wp2
 go_end0
 exact ⟨rfl, rfl⟩
theorem only_set (w : World) (g i : Nat) (u : Value) : w.grownBy (w.setCell ⟨g, i, none⟩ u) (some g) := ⟨rfl, rfl, rfl, by simp [World.setCell], fun k _ hk => Below.heap_setCell _ _ _ _ (fun e => hk (by rw [e]))⟩
theorem only_trans {a b c : World} {g : Nat} (h : a.grownBy b (some g)) (k : b.grownBy c (some g)) : a.grownBy c (some g) := ⟨k.os.trans h.os, k.tape.trans h.tape, k.output.trans h.output, Nat.le_trans h.size k.size, fun i hi hn => (k.block i (Nat.lt_of_lt_of_le hi h.size) hn).trans (h.block i hi hn)⟩
theorem only_refl (a : World) (g : Nat) : a.grownBy a (some g) := ⟨rfl, rfl, rfl, Nat.le_refl _, fun _ _ _ => rfl⟩
set_option maxRecDepth 100000 in
theorem text_any (h : Int) (l : List UInt8) (g : Nat) (T : TypeId) (w : World) (hl : l.length ≤ maxLen) (hb : Blk w g T #[.int .u64 h]) : Calls Try.prog 48 #[.pointer (some ⟨g, 0, none⟩), .string (bs l)] w fun e w' => e = .returned (.tuple #[]) ∧ Blk w' g T #[.int .u64 (mixText h l)] ∧ w.grownBy w' (some g) := by
 unfold maxLen at hl; go_enter Try.func48, Try.ntmps48; go_wp2
 go_loopw [4, 7] (fun o i wr => ∃ k : Nat, k ≤ l.length ∧ i = .int .i64 k ∧ Blk wr g T #[.int .u64 (mixText h (l.take k))] ∧ w.grownBy wr (some g)) (fun _ i _ => l.length - (intOf i).toNat)
 case atStart => exact ⟨0, by omega, rfl, hb, only_refl _ _⟩
 case round =>
  obtain ⟨k, hk, rfl, hblk, hg⟩ := hrel
  by_cases hlt : k < l.length
  ·have HS := Lib.hid (mixText_snoc h l k hlt); have hki : (k : Int) < (l.length : Int) := by omega
   have hby := l[k].toNat_lt
   go_wp2_with (go_at_call 47; refine (add_any _ _ g T wr (by omega) (by omega) hblk).mono ?_; rintro e w1 ⟨rfl, rfl⟩)
   go_roundw
   case rel => exact ⟨k + 1, by omega, by go_num, by rw [HS.out]; exact hblk.set_ 0 _, only_trans hg (only_set _ _ _ _)⟩
   case measure => simp [intOf]; omega
  ·go_wp2
   go_end0
   rw [List.take_of_length_le (by omega)] at hblk; exact ⟨rfl, hblk, hg⟩
set_option maxRecDepth 100000 in
theorem bytesOf_any (h : Int) (l : List UInt8) (w : World) (hl : l.length ≤ maxLen) : Calls Try.prog 54 #[.int .u64 h, .string (bs l)] w fun e w' => e = .returned (.int .u64 (mixText h l)) ∧ w = w' := by
 unfold maxLen at hl; go_enter Try.func54, Try.ntmps54; go_wp2
 go_loop [0, 5] (fun x i => ∃ k : Nat, k ≤ l.length ∧ i = .int .i64 k ∧ x = .int .u64 (mixText h (l.take k))) (fun _ i => l.length - (intOf i).toNat)
 case atStart => exact ⟨0, by omega, rfl, rfl⟩
 case round =>
  obtain ⟨k, hk, rfl, rfl⟩ := hrel
  by_cases hlt : k < l.length
  ·have HS := Lib.hid (mixText_snoc h l k hlt); have hki : (k : Int) < (l.length : Int) := by omega
   have hby := l[k].toNat_lt
   go_wp2_with (go_at_call 52; refine (byteOf_any _ _ w (by omega) (by omega)).mono ?_; rintro e w1 ⟨rfl, rfl⟩)
   go_round
   case rel => exact ⟨k + 1, by omega, by go_num, by rw [HS.out]⟩
   case measure => simp [intOf]; omega
  ·go_wp2; go_ret; exact ⟨ret_int (by rw [List.take_of_length_le (by omega)]), rfl⟩
def Strs (w : World) (B : Nat) (A : Option Addr) (ps : List (List UInt8)) : Prop := Rd w B 1 A ps.length (ps.map fun p => .string (bs p))
theorem Strs.at_ {w : World} {B : Nat} {A : Option Addr} {ps : List (List UInt8)} (h : Strs w B A ps) {k : Nat} (hk : k < ps.length) : ∃ b off, A = some ⟨b, off, none⟩ ∧ b < B ∧ w.cell? ⟨b, off + k, none⟩ = some (.string (bs ps[k])) := by
 obtain ⟨b, off, u, rfl, hb, hx, hc⟩ := Rd.at_ (j := 0) h hk (by omega); simp [List.getElem?_eq_getElem hk] at hx; subst hx; exact ⟨b, off, rfl, hb, by simpa using hc⟩
def mixPart (h : Int) (p : List UInt8) : Int := mixText (mixText h (be (IntKind.u64.wrap (p.length : Int)) 8)) p
def mixParts (h : Int) (ps : List (List UInt8)) : Int := ps.foldl mixPart h
theorem mixParts_snoc (h : Int) (ps : List (List UInt8)) (k : Nat) (hk : k < ps.length) : mixParts h (ps.take (k + 1)) = mixPart (mixParts h (ps.take k)) ps[k] := by
 unfold mixParts; rw [List.take_succ_eq_append_getElem hk, List.foldl_append]; rfl
def seedC : Int := 11400714819323198485
def finS (h : Int) : Int := mulC (xr h (h / 536870912))
def finN : Nat → Int → Int
 | 0, h => h
 | k + 1, h => finS (finN k h)
def lastS (h : Int) : Int := xr h (h / 4294967296)
def clampW (w : Int) : Int := if w < 1 then 1 else if 8 < w then 8 else w
theorem clampW_bd (w : Int) : 1 ≤ clampW w ∧ clampW w ≤ 8 := by unfold clampW; split <;> (try split) <;> omega
def headS (tag : Int) (ps : List (List UInt8)) : Int := mixParts (mixS seedC (tag % 256)) ps
def ofS (w tag : Int) (ps : List (List UInt8)) : Int := lastS (finS (finS (headS tag ps))) / 256 ^ (8 - clampW w).toNat
theorem u64_wrap (d : Int) : 0 ≤ IntKind.u64.wrap d ∧ IntKind.u64.wrap d < 18446744073709551616 := by
 rw [IntKind.wrap_u64]; omega
theorem be8_short (n : Int) : (be n 8).length ≤ maxLen := by rw [be_len]; simp [maxLen]
theorem pow_w (cw : Int) (h : 1 ≤ cw ∧ cw ≤ 8) : (2 : Int) ^ (64 - 8 * cw).toNat = 256 ^ (8 - cw).toNat := by
 have e : (64 - 8 * cw).toNat = 8 * (8 - cw).toNat := by omega
 rw [e, Int.pow_mul]; rfl
def Short (ps : List (List UInt8)) : Prop := ∀ p ∈ ps, p.length ≤ maxLen
set_option maxRecDepth 100000 in
theorem of_any (wd tag : Int) (ps : List (List UInt8)) (A : Option Addr) (c B : Nat) (w : World) (h : Strs w B A ps) (hB : B ≤ w.heap.size) (hl : ps.length ≤ maxLen) (hsh : Short ps) :
    Calls Try.prog 34 #[.int .i64 wd, .int .i64 tag, .slice A ps.length c] w fun e w' => e = .returned (.int .u64 (ofS wd tag ps)) ∧ Below w.heap.size w w' := by
  have hl' : (ps.length : Int) ≤ 9223372036854775807 := by unfold maxLen at hl; omega
  go_enter Try.func34, Try.ntmps34
  go_upto_region 1 with fail
  go_cut [0] (fun x wc => x = .int .i64 (clampW wd) ∧ w = wc)
  case first =>
    go_wp2_with fail
    all_goals (go_meet; exact ⟨by simp only [clampW]; congr 1; split <;> (try split) <;> omega, rfl⟩)
  case rest =>
    obtain ⟨rfl, rfl⟩ := hcut
    have hcw := clampW_bd wd
    have HO : Hid (ofS wd tag ps = lastS (finS (finS (headS tag ps))) / 256 ^ (8 - clampW wd).toNat) := rfl
    generalize clampW wd = cw at *
    go_wp2_with (go_at_call 47; refine (add_any _ _ w.heap.size 73 _ (by omega) (by omega) (Blk.new _ _ _)).mono ?_; rintro e w1 ⟨rfl, rfl⟩)
    go_loopw [9, 19] (fun o i wr => ∃ k : Nat, k ≤ ps.length ∧ i = .int .i64 k ∧ Blk wr w.heap.size 73 #[.int .u64 (mixParts (mixS seedC (tag % 256)) (ps.take k))] ∧ Below w.heap.size w wr) (fun _ i _ => ps.length - (intOf i).toNat)
    case atStart => exact ⟨0, by omega, rfl, Blk.new _ _ _, (Below.refl _ _).alloc (Nat.le_refl _) _⟩
    case round =>
      obtain ⟨k, hk, rfl, hblk, hb⟩ := hrel
      have hsz := hb.size
      by_cases hlt : k < ps.length
      · obtain ⟨b, off, rfl, hbB, hc0⟩ := Strs.at_ (h.below (hb.mono hB)) hlt
        have HS := Lib.hid (mixParts_snoc (mixS seedC (tag % 256)) ps k hlt)
        have hki : (k : Int) < (ps.length : Int) := by omega
        have hpl := Lib.hid (hsh _ (List.getElem_mem hlt))
        go_wp2_with (first
          | (go_at_call 49; refine (eight_any _ _ (u64_wrap _).1 (u64_wrap _).2).mono ?_; rintro e w1 ⟨rfl, hb1⟩
             have hblk1 := hblk.below hb1 hblk.lt
             have hb1' := hb.trans (hb1.mono hsz)))
        refine (text_any _ (be (IntKind.u64.wrap (ps[k].length : Int)) 8) w.heap.size 73 w1 (be8_short _) hblk1).mono ?_
        rintro e w2 ⟨rfl, hblk2, hg2⟩
        have hb2 := hb1'.grown hg2 hb1'.size (by simp)
        go_wp2_with fail
        refine (text_any _ ps[k] w.heap.size 73 w2 hpl.out hblk2).mono ?_
        rintro e w3 ⟨rfl, hblk3, hg3⟩
        have hb3 := hb2.grown hg3 hb2.size (by simp)
        go_wp2
        go_roundw
        case rel => exact ⟨k + 1, by omega, by go_num, by rw [HS.out]; exact hblk3, hb3⟩
        case measure => simp [intOf]; omega
      · rw [List.take_of_length_le (by omega)] at hblk
        have hc := hblk.cell 0
        have HH : Hid (mixParts (mixS seedC (tag % 256)) ps = headS tag ps) := rfl
        rw [HH.out] at hc
        generalize headS tag ps = H at *
        clear hblk
        go_wp2
        go_loop [10, 32] (fun x i => ∃ k : Nat, k ≤ 2 ∧ i = .int .i64 k ∧ x = .int .u64 (finN k H)) (fun _ i => 2 - (intOf i).toNat)
        case atStart => exact ⟨0, by omega, rfl, rfl⟩
        case round =>
          obtain ⟨j, hj, rfl, rfl⟩ := hrel
          by_cases hj2 : j < 2
          · go_wp2
            go_round
            case rel => exact ⟨j + 1, by omega, by go_num, rfl⟩
            case measure => simp [intOf]; omega
          · have HJ : Hid (j = 2) := show j = 2 by omega
            go_wp2
            go_ret
            exact ⟨ret_int (by rw [HO.out, HJ.out, ← pow_w cw hcw]; rfl), hb⟩
theorem quoC (a k : Int) (hk : 1 ≤ k) : IntKind.u64.wrap ((IntKind.u64.wrap (a * 11400714819323198485)).tdiv k) = IntKind.u64.wrap (a * 11400714819323198485) / k := tdiv_u64 _ _ (mulC_bd a) hk
theorem quo29 (x : Int) (h : 0 ≤ x ∧ x ≤ 18446744073709551615) : IntKind.u64.wrap (x.tdiv 536870912) = x / 536870912 := tdiv_u64 _ _ h (by omega)
theorem mixText_bd (h : Int) (l : List UInt8) (hh : 0 ≤ h ∧ h ≤ 18446744073709551615) : 0 ≤ mixText h l ∧ mixText h l ≤ 18446744073709551615 := by
 unfold mixText
 induction l generalizing h with
 | nil => exact hh
 | cons b l ih => exact ih _ (mixS_bd _ _)
theorem mixParts_bd (h : Int) (ps : List (List UInt8)) (hh : 0 ≤ h ∧ h ≤ 18446744073709551615) : 0 ≤ mixParts h ps ∧ mixParts h ps ≤ 18446744073709551615 := by
 unfold mixParts
 induction ps generalizing h with
 | nil => exact hh
 | cons b l ih => exact ih _ (mixText_bd _ _ (mixText_bd _ _ hh))
theorem headS_bd (tag : Int) (ps : List (List UInt8)) : 0 ≤ headS tag ps ∧ headS tag ps ≤ 18446744073709551615 := mixParts_bd _ _ (mixS_bd _ _)
theorem lastS_bd (h : Int) : 0 ≤ lastS h ∧ lastS h ≤ 18446744073709551615 := xr_bd _ _
set_option maxRecDepth 100000 in
theorem rof_any (wd tag : Int) (ps : List (List UInt8)) (A : Option Addr) (c B : Nat) (w : World) (h : Strs w B A ps) (hB : B ≤ w.heap.size) (hl : ps.length ≤ maxLen) (hsh : Short ps) :
    Calls Try.prog 36 #[.int .i64 wd, .int .i64 tag, .slice A ps.length c] w fun e w' => e = .returned (.int .u64 (ofS wd tag ps)) ∧ Below w.heap.size w w' := by
  have hl' : (ps.length : Int) ≤ 9223372036854775807 := by unfold maxLen at hl; omega
  go_enter Try.func36, Try.ntmps36
  go_upto_if 12 with fail
  go_cut [0] (fun x wc => x = .int .i64 (if wd < 1 then 1 else wd) ∧ w = wc)
  case first =>
    go_wp2_with fail
    all_goals (go_meet; exact ⟨by congr 1; split <;> omega, rfl⟩)
  case rest =>
    obtain ⟨rfl, rfl⟩ := hcut
    have hcw := clampW_bd wd
    have hcl : clampW wd = if 8 < (if wd < 1 then 1 else wd) then 8 else (if wd < 1 then 1 else wd) := by unfold clampW; split <;> (try split) <;> omega
    generalize (if wd < 1 then 1 else wd) = wd' at *
    go_upto_if 14 with fail
    go_cut [0] (fun x wc => x = .int .i64 (clampW wd) ∧ w = wc)
    case first =>
      have HCL := Lib.hid hcl
      clear hcl
      go_wp2_with fail
      all_goals (go_meet; exact ⟨by rw [HCL.out]; congr 1; split <;> omega, rfl⟩)
    case rest =>
      clear hcl
      obtain ⟨rfl, rfl⟩ := hcut
      have HO : Hid (ofS wd tag ps = lastS (finS (finS (headS tag ps))) / 256 ^ (8 - clampW wd).toNat) := rfl
      generalize clampW wd = cw at *
      go_wp2_with (go_at_call 52; refine (byteOf_any _ _ w (by omega) (by omega)).mono ?_; rintro e w1 ⟨rfl, rfl⟩)
      go_loopw [7, 8, 9] (fun x i o wr => ∃ k : Nat, k ≤ ps.length ∧ i = .int .i64 k ∧ x = .int .u64 (mixParts (mixS seedC (tag % 256)) (ps.take k)) ∧ Below w.heap.size w wr) (fun _ i _ _ => ps.length - (intOf i).toNat)
      case atStart => exact ⟨0, by omega, rfl, rfl, Below.refl _ _⟩
      case round =>
        obtain ⟨k, hk, rfl, rfl, hb⟩ := hrel
        have hsz := hb.size
        by_cases hlt : k < ps.length
        · obtain ⟨b, off, rfl, hbB, hc0⟩ := Strs.at_ (h.below (hb.mono hB)) hlt
          have HS := Lib.hid (mixParts_snoc (mixS seedC (tag % 256)) ps k hlt)
          have hki : (k : Int) < (ps.length : Int) := by omega
          have hpl := Lib.hid (hsh _ (List.getElem_mem hlt))
          generalize mixParts (mixS seedC (tag % 256)) (ps.take k) = X at *
          go_wp2_with (first
            | (go_at_call 53; refine (reight_any _ _ (u64_wrap _).1 (u64_wrap _).2).mono ?_; rintro e w1 ⟨rfl, hb1⟩
               have hc1 := (hb1.cell (p := ⟨b, off + k, none⟩) (by simp; omega)).trans hc0
               have hb1' := hb.trans (hb1.mono hsz)))
          refine (bytesOf_any X (be (IntKind.u64.wrap (ps[k].length : Int)) 8) w1 (be8_short _)).mono ?_
          rintro e w2 ⟨rfl, rfl⟩
          go_wp2_with fail
          refine (bytesOf_any _ ps[k] w1 hpl.out).mono ?_
          rintro e w2 ⟨rfl, rfl⟩
          go_wp2
          go_roundw
          case rel => exact ⟨k + 1, by omega, by go_num, by rw [HS.out]; rfl, hb1'⟩
          case measure => simp [intOf]; omega
        · have HH : Hid (mixParts (mixS seedC (tag % 256)) (ps.take k) = headS tag ps) := by show _ = _; rw [List.take_of_length_le (by omega)]; rfl
          rw [HH.out]
          have hH := headS_bd tag ps
          clear HH
          generalize headS tag ps = H at *
          have q1 := Lib.hid (quo29 H hH)
          go_wp2
          have hR := lastS_bd (finS (finS H))
          have hE : lastS (finS (finS H)) = bits .xor .u64 (IntKind.u64.wrap (bits .xor .u64 (IntKind.u64.wrap (bits .xor .u64 H (H / 536870912) * 11400714819323198485)) (IntKind.u64.wrap (bits .xor .u64 H (H / 536870912) * 11400714819323198485) / 536870912) * 11400714819323198485)) (IntKind.u64.wrap (bits .xor .u64 (IntKind.u64.wrap (bits .xor .u64 H (H / 536870912) * 11400714819323198485)) (IntKind.u64.wrap (bits .xor .u64 H (H / 536870912) * 11400714819323198485) / 536870912) * 11400714819323198485) / 4294967296) := rfl
          have HE := Lib.hid hE
          clear hE
          generalize lastS (finS (finS H)) = R at *
          go_loop [7, 10] (fun x i => ∃ j : Nat, (j : Int) ≤ 8 - cw ∧ i = .int .i64 (cw + j) ∧ x = .int .u64 (R / 256 ^ j)) (fun _ i => (8 - intOf i).toNat)
          case atStart =>
            refine ⟨0, by omega, by simp, ?_⟩
            rw [quoC _ 536870912 (by omega), quoC _ 4294967296 (by omega), HE.out]
            simp
          case round =>
            obtain ⟨j, hj, rfl, rfl⟩ := hrel
            have HD := Lib.hid (u64_div R j hR.1 (by omega))
            by_cases hj8 : cw + (j : Int) < 8
            · go_wp2
              go_round
              case rel => exact ⟨j + 1, by omega, by go_num, by rw [HD.out]⟩
              case measure => simp [intOf]; omega
            · have HJ : Hid (j = (8 - cw).toNat) := show j = (8 - cw).toNat by omega
              go_wp2
              go_ret
              exact ⟨ret_int (by rw [HO.out, ← HJ.out]), hb⟩
end Go.Proofs.Ytlfonmpgenoooaa
