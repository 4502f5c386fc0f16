/- Of the texts Li0. -/
import Derived.Test.YtjjkdmngmopjbaaProg
import Derived.Test.YtjjkdmngmopjbaaG15
import Derived.Test.YtjjkdmngmopjbaaG16
import Derived.Test.YtjjkdmngmopjbaaG23
import Derived.Test.YtjjkdmngmopjbaaG25
import Derived.Deep.QuietTactic
import Derived.BigQuiet
set_option linter.unusedSimpArgs false
set_option linter.unusedVariables false
namespace Go.Proofs.Ytjjkdmngmopjbaa
open Go.RowKit
def nameS (wd : Int) (x : HeaderD) : Int := ofS wd 6 [(Out.empty.header x).rs]
def benchS (wd : Int) (l : List Seat) : Int := ofS wd 7 [(Out.empty.bench l).rs]
theorem rs_le (S : Out) : S.rs.length ≤ S.b.length := by
  unfold Out.rs
  split
  · simp
  · split <;> simp
theorem header_rs (x : HeaderD) : (Out.empty.header x).rs.length ≤ 1000 := by
  have h1 := rs_le (Out.empty.header x)
  have h2 := Out.empty.header_len x
  have h3 : Out.empty.b.length = 0 := rfl
  omega
theorem bench_rs (l : List Seat) (h : l.length ≤ 65536) : (Out.empty.bench l).rs.length ≤ 1000000 := by
  have h1 := rs_le (Out.empty.bench l)
  have h2 := Out.empty.bench_len l
  have h3 : Out.empty.b.length = 0 := rfl
  omega
theorem short_one {s : List UInt8} (h : s.length ≤ 1000000) : Short [s] := fun p hp => by
  rw [List.mem_singleton] at hp
  subst hp
  unfold maxLen
  omega
set_option maxRecDepth 100000 in
theorem lname_any (wd : Int) (x : HeaderD) (hx : x.ok) (w : World) :
    Calls Try.prog 35 #[.int .i64 wd, .agg #[.int .i64 x.c, .int .i64 x.h, .int .u64 x.p, .int .u64 x.t, .int .u64 x.g, .int .u64 x.s, .int .u64 x.r, .int .u64 x.b, .int .i64 x.o]] w fun e w' => e = .returned (.int .u64 (nameS wd x)) ∧ Below w.heap.size w w' := by
  have hP : ∀ W, Calls _ _ _ W _ := fun W => put_header x hx W
  have hs := header_rs x
  unfold HeaderD.val at hP
  unfold nameS
  generalize (Out.empty.header x).rs = s at *
  generalize (Out.empty.header x).re = r at *
  obtain ⟨xc, xh, xp, xt, xg, xs, xr, xb, xo⟩ := x
  simp only at hP ⊢
  go_enter Try.func35, Try.ntmps35
  go_wp2_with fail
  refine (hP _).mono ?_
  rintro e w1 ⟨rfl, hb⟩
  go_wp2_with fail
  refine (of_any wd 6 [s] _ _ (w1.heap.size + 1) _ (Strs.laid [s]) (by simp) (by simp [maxLen]) (short_one (by omega))).mono ?_
  rintro e w2 ⟨rfl, hb2⟩
  have h1 := ((Below.refl w.heap.size w).alloc (Nat.le_refl _) (.cells #[.int .i64 xc, .int .i64 xh, .int .u64 xp, .int .u64 xt, .int .u64 xg, .int .u64 xs, .int .u64 xr, .int .u64 xb, .int .i64 xo] 27)).trans (hb.mono (by simp))
  go_wp2_with fail
  go_ret
  exact ⟨rfl, (h1.alloc h1.size _).trans (hb2.mono (by have := h1.size; simp; omega))⟩
set_option maxRecDepth 100000 in
theorem rname_any (wd : Int) (x : HeaderD) (hx : x.ok) (w : World) :
    Calls Try.prog 36 #[.int .i64 wd, .agg #[.int .i64 x.c, .int .i64 x.h, .int .u64 x.p, .int .u64 x.t, .int .u64 x.g, .int .u64 x.s, .int .u64 x.r, .int .u64 x.b, .int .i64 x.o]] w fun e w' => e = .returned (.int .u64 (nameS wd x)) ∧ Below w.heap.size w w' := by
  have hP : ∀ W, Calls _ _ _ W _ := fun W => rput_header x hx W
  have hs := header_rs x
  unfold HeaderD.val at hP
  unfold nameS
  generalize (Out.empty.header x).rs = s at *
  generalize (Out.empty.header x).re = r at *
  obtain ⟨xc, xh, xp, xt, xg, xs, xr, xb, xo⟩ := x
  simp only at hP ⊢
  go_enter Try.func36, Try.ntmps36
  go_wp2_with fail
  refine (hP _).mono ?_
  rintro e w1 ⟨rfl, hb⟩
  go_wp2_with fail
  refine (rof_any wd 6 [s] _ _ (w1.heap.size + 1) _ (Strs.laid [s]) (by simp) (by simp [maxLen]) (short_one (by omega))).mono ?_
  rintro e w2 ⟨rfl, hb2⟩
  have h1 := ((Below.refl w.heap.size w).alloc (Nat.le_refl _) (.cells #[.int .i64 xc, .int .i64 xh, .int .u64 xp, .int .u64 xt, .int .u64 xg, .int .u64 xs, .int .u64 xr, .int .u64 xb, .int .i64 xo] 27)).trans (hb.mono (by simp))
  go_wp2_with fail
  go_ret
  exact ⟨rfl, (h1.alloc h1.size _).trans (hb2.mono (by have := h1.size; simp; omega))⟩
set_option maxRecDepth 100000 in
theorem bdigest_any (wd : Int) (l : List Seat) (A : Option Addr) (c B : Nat) (w : World) (h : SeatsL w B A l) (hB : B ≤ w.heap.size) (hl : l.length ≤ 65536) :
    Calls Try.prog 79 #[.int .i64 wd, .slice A l.length c] w fun e w' => e = .returned (.int .u64 (benchS wd l)) ∧ Below w.heap.size w w' := by
  have hP := put_bench l A c B w h hB hl
  have hs := bench_rs l hl
  unfold benchS
  generalize (Out.empty.bench l).rs = s at *
  generalize (Out.empty.bench l).re = r at *
  go_enter Try.func79, Try.ntmps79
  go_wp2_with fail
  refine hP.mono ?_
  rintro e w1 ⟨rfl, hb⟩
  go_wp2_with fail
  refine (of_any wd 7 [s] _ _ (w1.heap.size + 1) _ (Strs.laid [s]) (by simp) (by simp [maxLen]) (short_one (by omega))).mono ?_
  rintro e w2 ⟨rfl, hb2⟩
  go_wp2_with fail
  go_ret
  exact ⟨rfl, (hb.alloc hb.size _).trans (hb2.mono (by have := hb.size; simp; omega))⟩
set_option maxRecDepth 100000 in
theorem rbdigest_any (wd : Int) (l : List Seat) (A : Option Addr) (c B : Nat) (w : World) (h : SeatsL w B A l) (hB : B ≤ w.heap.size) (hl : l.length ≤ 65536) :
    Calls Try.prog 70 #[.int .i64 wd, .slice A l.length c] w fun e w' => e = .returned (.int .u64 (benchS wd l)) ∧ Below w.heap.size w w' := by
  have hP := rput_bench l A c B w h hB hl
  have hs := bench_rs l hl
  unfold benchS
  generalize (Out.empty.bench l).rs = s at *
  generalize (Out.empty.bench l).re = r at *
  go_enter Try.func70, Try.ntmps70
  go_wp2_with fail
  refine hP.mono ?_
  rintro e w1 ⟨rfl, hb⟩
  go_wp2_with fail
  refine (rof_any wd 7 [s] _ _ (w1.heap.size + 1) _ (Strs.laid [s]) (by simp) (by simp [maxLen]) (short_one (by omega))).mono ?_
  rintro e w2 ⟨rfl, hb2⟩
  go_wp2_with fail
  go_ret
  exact ⟨rfl, (hb.alloc hb.size _).trans (hb2.mono (by have := hb.size; simp; omega))⟩
theorem lepoch_any (h e : Int) (w : World) (h1 : 1 ≤ h) (h2 : h ≤ 9223372036854775807) (he : 1 ≤ e) (he2 : e ≤ 9223372036854775807) :
    Calls Try.prog 39 #[.int .i64 h, .int .i64 e] w fun e' w' => e' = .returned (.int .i64 ((h - 1) / e)) ∧ w = w' := by
  have hw : IntKind.i64.wrap (h - 1) = h - 1 := IntWalk.i64_in _ (by omega)
  have hne : ¬ e = 0 := by omega
  have hne2 : (e == 0) = false := beq_eq_false_iff_ne.2 hne
  have hd : (h - 1).tdiv e = (h - 1) / e := Int.tdiv_eq_ediv_of_nonneg (by omega)
  have hd1 : 0 ≤ (h - 1) / e := Int.ediv_nonneg (by omega) (by omega)
  have hd2 : (h - 1) / e ≤ h - 1 := Int.ediv_le_self _ (by omega)
  have hd3 : IntKind.i64.wrap ((h - 1) / e) = (h - 1) / e := IntWalk.i64_in _ (by omega)
  go_enter Try.func39, Try.ntmps39
  go_wp2_with fail
  go_ret
  exact ⟨rfl, rfl⟩
theorem repoch_any (h e : Int) (w : World) (h1 : 1 ≤ h) (h2 : h ≤ 9223372036854775807) (he : 1 ≤ e) (he2 : e ≤ 9223372036854775807) :
    Calls Try.prog 40 #[.int .i64 h, .int .i64 e] w fun e' w' => e' = .returned (.int .i64 ((h - 1) / e)) ∧ w = w' := by
  have hw : IntKind.i64.wrap (h - 1) = h - 1 := IntWalk.i64_in _ (by omega)
  have hne : ¬ e = 0 := by omega
  have hne2 : (e == 0) = false := beq_eq_false_iff_ne.2 hne
  have hd : (h - 1).tdiv e = (h - 1) / e := Int.tdiv_eq_ediv_of_nonneg (by omega)
  have hd1 : 0 ≤ (h - 1) / e := Int.ediv_nonneg (by omega) (by omega)
  have hd2 : (h - 1) / e ≤ h - 1 := Int.ediv_le_self _ (by omega)
  have hd3 : IntKind.i64.wrap ((h - 1) / e) = (h - 1) / e := IntWalk.i64_in _ (by omega)
  go_enter Try.func40, Try.ntmps40
  go_wp2_with fail
  go_ret
  exact ⟨rfl, rfl⟩
theorem SeatsL.cells_ {w : World} {B : Nat} {A : Option Addr} {l : List Seat} (h : SeatsL w B A l) {k : Nat} (hk : k < l.length) : ∃ b off, A = some ⟨b, off, none⟩ ∧ b < B ∧ w.cell? ⟨b, off + k * 2, none⟩ = some (.int .i64 l[k].who) ∧ w.cell? ⟨b, off + k * 2 + 1, none⟩ = some (.int .i64 l[k].weight) := by
  obtain ⟨b, off, e, hb, hc⟩ := Lay.at_ (n := 2) (f := seatCells) (fun _ => rfl) (by omega) h hk
  exact ⟨b, off, e, hb, hc 0 _ rfl, hc 1 _ rfl⟩
set_option maxRecDepth 100000 in
theorem sameSeats_any (l : List Seat) (A A' : Option Addr) (c c' B B' : Nat) (w : World) (h : SeatsL w B A l) (h' : SeatsL w B' A' l) (hlen : l.length ≤ 1000000000000) :
    Calls Try.prog 72 #[.slice A l.length c, .slice A' l.length c'] w fun e w' => e = .returned (.bool true) ∧ Below w.heap.size w w' := by
  go_enter Try.func72, Try.ntmps72
  go_wp2_with fail
  go_loopw [5] (fun z wr => ∃ (i d : Nat), z = .int .i64 (i : Int) ∧ i ≤ l.length ∧ wr = w.drewN d) (fun z _ => l.length - (intOf z).toNat)
  case atStart => exact ⟨0, 0, rfl, by omega, rfl⟩
  case round =>
    obtain ⟨i, d, rfl, hi, rfl⟩ := hrel
    by_cases hlt : i < l.length
    · have hii : (i : Int) < (l.length : Int) := by omega
      obtain ⟨b, o, rfl, _, x0, x1⟩ := h.cells_ hlt
      obtain ⟨b', o', rfl, _, y0, y1⟩ := h'.cells_ hlt
      generalize l[i] = x at *
      go_wp2_with fail
      go_quiet (fail)
      go_wp2_with fail
      go_roundw
      case rel => exact ⟨i + 1, _, by go_num, by omega, rfl⟩
      case measure => simp [intOf]; omega
    · have hii : ¬ (i : Int) < (l.length : Int) := by omega
      go_wp2_with fail
      go_ret
      exact ⟨rfl, (Below.refl _ _).drewN _⟩
set_option maxRecDepth 100000 in
theorem sameView_any (xc xw xe xh xs : Int) (l : List Seat) (A A' : Option Addr) (c c' B B' : Nat) (w : World) (h : SeatsL w B A l) (h' : SeatsL w B' A' l) (hB : B ≤ w.heap.size) (hB' : B' ≤ w.heap.size) (hlen : l.length ≤ 1000000000000) :
    Calls Try.prog 34 #[.agg #[.int .i64 xc, .int .i64 xw, .int .i64 xe, .int .i64 xh, .int .u64 xs, .slice A l.length c], .agg #[.int .i64 xc, .int .i64 xw, .int .i64 xe, .int .i64 xh, .int .u64 xs, .slice A' l.length c']] w fun e w' => e = .returned (.bool true) ∧ Below w.heap.size w w' := by
  have hS := fun W (h : SeatsL W B A l) (h' : SeatsL W B' A' l) => sameSeats_any l A A' c c' B B' W h h' hlen
  have hb : Below w.heap.size w ((w.alloc (.cells #[.int .i64 xc, .int .i64 xw, .int .i64 xe, .int .i64 xh, .int .u64 xs, .slice A l.length c] 82)).alloc (.cells #[.int .i64 xc, .int .i64 xw, .int .i64 xe, .int .i64 xh, .int .u64 xs, .slice A' l.length c'] 82)) := ((Below.refl _ _).alloc (Nat.le_refl _) _).alloc (by simp) _
  have hC := hS _ (Rd.below h (hb.mono hB)) (Rd.below h' (hb.mono hB'))
  clear hS h h'
  go_enter Try.func34, Try.ntmps34
  go_wp2_with fail
  refine hC.mono ?_
  rintro e w2 ⟨rfl, hb2⟩
  go_wp2_with fail
  go_ret
  exact ⟨rfl, hb.trans (hb2.mono hb.size)⟩
end Go.Proofs.Ytjjkdmngmopjbaa

