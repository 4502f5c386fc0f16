/- Of the texts Li0. -/
import Derived.Test.YtlfonmpgenoooaaProg
import Derived.Test.YtlfonmpgenoooaaG23
import Derived.Test.YtlfonmpgenoooaaG24
import Derived.Test.YtlfonmpgenoooaaG31
import Derived.Deep.QuietTactic
import Derived.BigQuiet
set_option linter.unusedSimpArgs false
set_option linter.unusedVariables false
namespace Go.Proofs.Ytlfonmpgenoooaa
open Go.RowKit
def benchS (wd : Int) (l : List Seat) : Int := ofS wd 7 [(Out.empty.bench l).rs]
theorem rs_le (S : Out) : S.rs.length ≤ S.b.length := by
 unfold Out.rs; split
 ·simp
 ·split <;> simp
theorem bench_rs (l : List Seat) (h : l.length ≤ 65536) : (Out.empty.bench l).rs.length ≤ 1000000 := by
 have h1 := rs_le (Out.empty.bench l); have h2 := Out.empty.bench_len l; have h3 : Out.empty.b.length = 0 := rfl; omega
theorem short_one {s : List UInt8} (h : s.length ≤ 1000000) : Short [s] := fun p hp => by
 rw [List.mem_singleton] at hp; subst hp; unfold maxLen; omega
set_option maxRecDepth 100000 in
theorem bdigest_any (wd : Int) (l : List Seat) (A : Option Addr) (c B : Nat) (w : World) (h : SeatsL w B A l) (hB : B ≤ w.heap.size) (hl : l.length ≤ 65536) :
  Calls Try.prog 12 #[.int .i64 wd, .slice A l.length c] w fun e w' => e = .returned (.int .u64 (benchS wd l)) ∧ Below w.heap.size w w' := by
 have hP := put_bench l A c B w h hB hl; have hs := bench_rs l hl; unfold benchS; generalize (Out.empty.bench l).rs = s at *; generalize (Out.empty.bench l).re = r at *; go_enter Try.func12, Try.ntmps12; go_wp2_with fail; refine hP.mono ?_; rintro e w1 ⟨rfl, hb⟩; go_wp2_with fail; refine (of_any wd 7 [s] _ _ (w1.heap.size + 1) _ (Strs.laid [s]) (by simp) (by simp [maxLen]) (short_one (by omega))).mono ?_; rintro e w2 ⟨rfl, hb2⟩; go_wp2_with fail; go_ret; exact ⟨rfl, (hb.alloc hb.size _).trans (hb2.mono (by have := hb.size; simp; omega))⟩
set_option maxRecDepth 100000 in
theorem rbdigest_any (wd : Int) (l : List Seat) (A : Option Addr) (c B : Nat) (w : World) (h : SeatsL w B A l) (hB : B ≤ w.heap.size) (hl : l.length ≤ 65536) :
  Calls Try.prog 13 #[.int .i64 wd, .slice A l.length c] w fun e w' => e = .returned (.int .u64 (benchS wd l)) ∧ Below w.heap.size w w' := by
 have hP := rput_bench l A c B w h hB hl; have hs := bench_rs l hl; unfold benchS; generalize (Out.empty.bench l).rs = s at *; generalize (Out.empty.bench l).re = r at *; go_enter Try.func13, Try.ntmps13; go_wp2_with fail; refine hP.mono ?_; rintro e w1 ⟨rfl, hb⟩; go_wp2_with fail; refine (rof_any wd 7 [s] _ _ (w1.heap.size + 1) _ (Strs.laid [s]) (by simp) (by simp [maxLen]) (short_one (by omega))).mono ?_; rintro e w2 ⟨rfl, hb2⟩; go_wp2_with fail; go_ret; exact ⟨rfl, (hb.alloc hb.size _).trans (hb2.mono (by have := hb.size; simp; omega))⟩
theorem SeatsL.cells_ {w : World} {B : Nat} {A : Option Addr} {l : List Seat} (h : SeatsL w B A l) {k : Nat} (hk : k < l.length) : ∃ b off, A = some ⟨b, off, none⟩ ∧ b < B ∧ w.cell? ⟨b, off + k * 2, none⟩ = some (.int .i64 l[k].who) ∧ w.cell? ⟨b, off + k * 2 + 1, none⟩ = some (.int .i64 l[k].weight) := by
 obtain ⟨b, off, e, hb, hc⟩ := Lay.at_ (n := 2) (f := seatCells) (fun _ => rfl) (by omega) h hk; exact ⟨b, off, e, hb, hc 0 _ rfl, hc 1 _ rfl⟩
set_option maxRecDepth 100000 in
theorem sameSeats_any (l : List Seat) (A A' : Option Addr) (c c' B B' : Nat) (w : World) (h : SeatsL w B A l) (h' : SeatsL w B' A' l) (hlen : l.length ≤ 1000000000000) :
  Calls Try.prog 6 #[.slice A l.length c, .slice A' l.length c'] w fun e w' => e = .returned (.bool true) ∧ Below w.heap.size w w' := by
 go_enter Try.func6, Try.ntmps6; go_wp2_with fail
 go_loopw [5] (fun z wr => ∃ (i d : Nat), z = .int .i64 (i : Int) ∧ i ≤ l.length ∧ wr = w.drewN d) (fun z _ => l.length - (intOf z).toNat)
 case atStart => exact ⟨0, 0, rfl, by omega, rfl⟩
 case round =>
  obtain ⟨i, d, rfl, hi, rfl⟩ := hrel
  by_cases hlt : i < l.length
  ·have hii : (i : Int) < (l.length : Int) := by omega
   obtain ⟨b, o, rfl, _, x0, x1⟩ := h.cells_ hlt; obtain ⟨b', o', rfl, _, y0, y1⟩ := h'.cells_ hlt; generalize l[i] = x at *; go_wp2_with fail
   go_quiet (fail)
   go_wp2_with fail
   go_roundw
   case rel => exact ⟨i + 1, _, by go_num, by omega, rfl⟩
   case measure => simp [intOf]; omega
  ·have hii : ¬ (i : Int) < (l.length : Int) := by omega
   go_wp2_with fail; go_ret; exact ⟨rfl, (Below.refl _ _).drewN _⟩
end Go.Proofs.Ytlfonmpgenoooaa
