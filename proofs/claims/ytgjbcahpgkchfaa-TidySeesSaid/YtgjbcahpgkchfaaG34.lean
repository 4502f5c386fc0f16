/- Of the texts TyW. -/
import Derived.Test.YtgjbcahpgkchfaaProg
import Derived.Test.YtgjbcahpgkchfaaG09
import Derived.Test.YtgjbcahpgkchfaaG32
import Derived.Deep.QuietTactic
import Derived.BigQuiet
set_option linter.unusedSimpArgs false
set_option linter.unusedVariables false
namespace Go.Proofs.Ytgjbcahpgkchfaa
open Go.RowKit
def WideB (w : World) (e : Ending) (w' : World) : Prop := ∃ b : Bool, e = .returned (.bool b) ∧ Below w.heap.size w w'
set_option maxRecDepth 100000 in
set_option maxHeartbeats 2000000 in
theorem wide_any (ps : List Pce) (ns : List (List UInt8)) (A A' : Option Addr) (c c' B : Nat) (w : World) (hP : PcsR w B A ps) (hS : Strs w B A' ns) (hB : B ≤ w.heap.size) (hps : ps.length ≤ maxLen) (hns : ns.length ≤ maxLen) (hbl : ∀ p ∈ ps, p.body.length ≤ maxLen ∧ p.name.length ≤ maxLen) (hsl : ∀ s ∈ ns, s.length ≤ maxLen) :
  Calls Try.prog 4 #[codV A ps.length c A' ns.length c'] w (WideB w) := by
 unfold maxLen at *; unfold codV; obtain ⟨X, hX⟩ : ∃ X, IntKind.i64.wrap ((ps.length : Int) + (ns.length : Int)) = X := ⟨_, rfl⟩
 obtain ⟨X', hX'⟩ : ∃ X, wrap64 ((ps.length : Int) + (ns.length : Int)) = X := ⟨_, rfl⟩
 go_enter Try.func4, Try.ntmps4; go_wp2_with fail
 go_loopw [3, 4] (fun n i wr => ∃ (j : Nat) (m : Int), i = .int .i64 (j : Int) ∧ n = .int .i64 m ∧ j ≤ ps.length ∧ Blk wr w.heap.size 25 #[.slice A ps.length c, .slice A' ns.length c'] ∧ Below w.heap.size w wr) (fun _ i _ => ps.length - (intOf i).toNat)
 case atStart => exact ⟨0, _, rfl, rfl, by omega, Blk.new _ _ _, (Below.refl _ _).alloc (Nat.le_refl _) _⟩
 case round =>
  clear hX hX'; obtain ⟨j, m, rfl, rfl, hj, hC, hb⟩ := hrel; have hz := hb.size; have hc0 := hC.c 0 rfl; have hc1 := hC.c 1 rfl; have hcA := fun o => hC.cell_a 0 (Value.slice A ps.length c) rfl o
  have hcB := fun o => hC.cell_a 1 (Value.slice A' ns.length c') rfl o
  by_cases hlt : j < ps.length
  ·have hji : (j : Int) < (ps.length : Int) := by omega
   by_cases hm : m ≤ 65536
   ·have hm0 : decide (m ≤ 65536) = true := decide_eq_true hm; clear hS hsl; obtain ⟨pb, off, Ab, cb, rfl, hbB, k0, k1, k2, k3, k4, hI⟩ := (hP.below (hb.mono hB)) j hlt; obtain ⟨hbp, hnp⟩ := hbl _ (List.getElem_mem hlt); have r0 : wr.drew.cell? ⟨w.heap.size, 0, none⟩ = some (Value.slice (some ⟨pb, off, none⟩) ps.length c) := hc0; generalize ps[j] = p at *; obtain ⟨nm, opn, prm, loc, body⟩ := p; simp only at k0 k1 k2 k3 k4 hbp hnp; clear hI hP hbl; have r1 : wr.drew.cell? ⟨pb, off + j * 5, none⟩ = some (.string (bs nm)) := k0; have r2 : wr.drew.cell? ⟨pb, off + j * 5 + 4, none⟩ = some (.slice Ab body.length cb) := k4; obtain ⟨Y, hY⟩ : ∃ Y, IntKind.i64.wrap (m + (body.length : Int)) = Y := ⟨_, rfl⟩
    obtain ⟨Y', hY'⟩ : ∃ Y, wrap64 (m + (body.length : Int)) = Y := ⟨_, rfl⟩
    have hYY : Y = Y' := by rw [← hY, ← hY', IntWalk.i64_left]
    obtain ⟨Z, hZ⟩ : ∃ Z, IntKind.i64.wrap (Y + (nm.length : Int)) = Z := ⟨_, rfl⟩
    obtain ⟨Z', hZ'⟩ : ∃ Z, wrap64 (Y + (nm.length : Int)) = Z := ⟨_, rfl⟩
    subst hYY; go_wp2_with fail
    go_quiet (fail)
    go_wp2_with fail
    go_roundw
    case rel => exact ⟨j + 1, _, by go_num, rfl, by omega, by first | exact hC.drewN _ | exact hC.drew | exact hC, by first | exact hb.drewN _ | exact hb.drew | exact hb⟩
    case measure => simp [intOf]; omega
   ·have hm0 : decide (m ≤ 65536) = false := decide_eq_false hm; clear hP hbl; go_wp2_with fail
    go_loopw [3, 5] (fun n i wr => ∃ (j : Nat) (m : Int), i = .int .i64 (j : Int) ∧ n = .int .i64 m ∧ j ≤ ns.length ∧ Blk wr w.heap.size 25 #[.slice A ps.length c, .slice A' ns.length c'] ∧ Below w.heap.size w wr) (fun _ i _ => ns.length - (intOf i).toNat)
    case atStart => exact ⟨0, _, rfl, rfl, by omega, hC, hb⟩
    case round =>
     clear hc0 hc1 hcA hcB hC hb hz hj; obtain ⟨j, m, rfl, rfl, hj, hC, hb⟩ := hrel; have hz := hb.size; have hc1 := hC.c 1 rfl; have hcB := fun o => hC.cell_a 1 (Value.slice A' ns.length c') rfl o
     by_cases hlt : j < ns.length
     ·have hji : (j : Int) < (ns.length : Int) := by omega
      by_cases hm : m ≤ 65536
      ·have hm0 : decide (m ≤ 65536) = true := decide_eq_true hm; obtain ⟨b', off', rfl, hbB', k0⟩ := Strs.at_ (Rd.below hS (hb.mono hB)) hlt; have hsp := hsl _ (List.getElem_mem hlt); generalize ns[j] = s at *; obtain ⟨Y, hY⟩ : ∃ Y, IntKind.i64.wrap (m + (s.length : Int)) = Y := ⟨_, rfl⟩
       obtain ⟨Y', hY'⟩ : ∃ Y, wrap64 (m + (s.length : Int)) = Y := ⟨_, rfl⟩
       go_wp2_with fail
       go_roundw
       case rel => exact ⟨j + 1, _, by go_num, rfl, by omega, by first | exact hC.drewN _ | exact hC.drew | exact hC, by first | exact hb.drewN _ | exact hb.drew | exact hb⟩
       case measure => simp [intOf]; omega
      ·have hm0 : decide (m ≤ 65536) = false := decide_eq_false hm; go_wp2_with fail; go_ret; exact ⟨_, rfl, hb⟩
     ·have hji : ¬ (j : Int) < (ns.length : Int) := by omega
      go_wp2_with fail; go_ret; exact ⟨_, rfl, hb⟩
  ·have hji : ¬ (j : Int) < (ps.length : Int) := by omega
   clear hP hbl; go_wp2_with fail
   go_loopw [3, 5] (fun n i wr => ∃ (j : Nat) (m : Int), i = .int .i64 (j : Int) ∧ n = .int .i64 m ∧ j ≤ ns.length ∧ Blk wr w.heap.size 25 #[.slice A ps.length c, .slice A' ns.length c'] ∧ Below w.heap.size w wr) (fun _ i _ => ns.length - (intOf i).toNat)
   case atStart => exact ⟨0, _, rfl, rfl, by omega, hC, hb⟩
   case round =>
    clear hc0 hc1 hcA hcB hC hb hz hj; obtain ⟨j, m, rfl, rfl, hj, hC, hb⟩ := hrel; have hz := hb.size; have hc1 := hC.c 1 rfl; have hcB := fun o => hC.cell_a 1 (Value.slice A' ns.length c') rfl o
    by_cases hlt : j < ns.length
    ·have hji : (j : Int) < (ns.length : Int) := by omega
     by_cases hm : m ≤ 65536
     ·have hm0 : decide (m ≤ 65536) = true := decide_eq_true hm; obtain ⟨b', off', rfl, hbB', k0⟩ := Strs.at_ (Rd.below hS (hb.mono hB)) hlt; have hsp := hsl _ (List.getElem_mem hlt); generalize ns[j] = s at *; obtain ⟨Y, hY⟩ : ∃ Y, IntKind.i64.wrap (m + (s.length : Int)) = Y := ⟨_, rfl⟩
      obtain ⟨Y', hY'⟩ : ∃ Y, wrap64 (m + (s.length : Int)) = Y := ⟨_, rfl⟩
      go_wp2_with fail
      go_roundw
      case rel => exact ⟨j + 1, _, by go_num, rfl, by omega, by first | exact hC.drewN _ | exact hC.drew | exact hC, by first | exact hb.drewN _ | exact hb.drew | exact hb⟩
      case measure => simp [intOf]; omega
     ·have hm0 : decide (m ≤ 65536) = false := decide_eq_false hm; go_wp2_with fail; go_ret; exact ⟨_, rfl, hb⟩
    ·have hji : ¬ (j : Int) < (ns.length : Int) := by omega
     go_wp2_with fail; go_ret; exact ⟨_, rfl, hb⟩
end Go.Proofs.Ytgjbcahpgkchfaa
