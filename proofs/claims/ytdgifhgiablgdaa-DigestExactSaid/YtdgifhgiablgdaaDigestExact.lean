/- DigestExact: package digest's and the reference's digests agree: of parts, of an image, of a list, and the path of it. -/
import Derived.Test.YtdgifhgiablgdaaProg
import Derived.Test.YtdgifhgiablgdaaFrame
import Derived.Test.YtdgifhgiablgdaaOpenT
import Derived.Test.YtdgifhgiablgdaaNodT
import Derived.Test.YtdgifhgiablgdaaDig5
import Derived.Test.YtdgifhgiablgdaaRows
namespace Go.Proofs.Ytdgifhgiablgdaa
open Go.RowKit
section
open Go.ChangeShapes Go.WideShapes Go.ChangeAt Go.Deep
variable {H : Type} {enc : TypeId × Value → H} {W : World}
set_option maxRecDepth 100000 in
theorem open_strs {v : Value} {d : DataW H} {p : List MemPlace} (hv : Value.okWide Try.prog W .any 0 50 v) (h : DataW.Trod enc Try.prog W 0 (fun _ => true) true 50 v d p) :
    ∃ A c l, v = .slice A l.length c ∧ l.length ≤ c ∧ c ≤ maxLen ∧ Strs W W.heap.size A l ∧ Short l := by
  obtain ⟨fuel, hf⟩ := h
  obtain ⟨a, len, cap, rfl⟩ := okWide_slice Try.underlying50 hv
  obtain ⟨l, hl⟩ := slOf_of_trod (size := 1) (R := IsStr) Try.underlying50 (by kernel_rfl) (by omega) str_trod _ _ _ hf
  obtain ⟨A, c, e, h1, h2, h3, h4⟩ := hl.flat (fun s => [.string (bs s)]) (fun _ _ hx => hx.1)
  simp [Value.cells] at e
  obtain ⟨rfl, rfl, rfl⟩ := e
  refine ⟨_, _, l, rfl, h1, h2, ?_, fun s hs => ?_⟩
  · rw [flatMap_one] at h3
    exact h3
  · obtain ⟨cs, hc⟩ := h4 s hs
    exact hc.2
end
/-- what 'sum' reckons: lengths, put together as the machine's numbers are -/
def sumW : List (List UInt8) → Int → Int
  | [], n => n
  | s :: r, n => if n ≤ 65536 then sumW r (IntKind.i64.wrap (n + (s.length : Int))) else n
theorem sumW_big (l : List (List UInt8)) (n : Int) (h : ¬ n ≤ 65536) : sumW l n = n := by
  cases l with
  | nil => rfl
  | cons s r => rw [sumW, if_neg h]
theorem sumW_step (l : List (List UInt8)) (k : Nat) (n : Int) (hk : k < l.length) (hn : n ≤ 65536) : sumW (l.drop k) n = sumW (l.drop (k + 1)) (IntKind.i64.wrap (n + (l[k].length : Int))) := by
  rw [List.drop_eq_getElem_cons hk, sumW, if_pos hn]
theorem sumW_end (l : List (List UInt8)) (k : Nat) (n : Int) (h : ¬ (k < l.length ∧ n ≤ 65536)) : sumW (l.drop k) n = n := by
  by_cases hk : k < l.length
  · exact sumW_big _ _ fun hn => h ⟨hk, hn⟩
  · rw [List.drop_eq_nil_of_le (by omega)]; rfl
set_option maxRecDepth 100000 in
theorem sum_any (l : List (List UInt8)) (A : Option Addr) (c B : Nat) (w : World) (h : Strs w B A l) (hl : l.length ≤ maxLen) (hsh : Short l) :
    Calls Try.prog 34 #[.slice A l.length c] w fun e w' => e = .returned (.int .i64 (sumW l (l.length : Int))) ∧ w = w' := by
  have hm : maxLen ≤ 9223372036854775807 := by simp [maxLen]
  go_enter Try.func34, Try.ntmps34
  go_wp2
  go_loop [3, 4] (fun x y => ∃ (n : Int) (k : Nat), x = .int .i64 n ∧ y = .int .i64 (k : Int) ∧ k ≤ l.length ∧ sumW (l.drop k) n = sumW l (l.length : Int)) (fun _ y => l.length - (intOf y).toNat)
  case atStart => exact ⟨l.length, 0, rfl, rfl, by omega, rfl⟩
  case round =>
    obtain ⟨n, k, rfl, rfl, hk, he⟩ := hrel
    have HE := Lib.hid he
    clear he
    by_cases hcont : k < l.length ∧ n ≤ 65536
    · obtain ⟨hlt, hn⟩ := hcont
      obtain ⟨b, off, rfl, hbB, hc0⟩ := Strs.at_ h hlt
      have hs := hsh l[k] (List.getElem_mem hlt)
      have hli : (k : Int) < (l.length : Int) := by omega
      have HS := Lib.hid (sumW_step l k n hlt hn)
      go_wp2
      go_round
      case rel => exact ⟨_, k + 1, rfl, by go_num, by omega, by have e := HS.out.symm.trans HE.out; rwa [IntWalk.i64_left] at e⟩
      case measure => simp [intOf]; omega
    · have HX := Lib.hid (sumW_end l k n hcont)
      by_cases hlt : k < l.length
      · have hli : (k : Int) < (l.length : Int) := by omega
        have hni : ¬ n ≤ 65536 := fun h => hcont ⟨hlt, h⟩
        go_wp2
        go_ret
        exact ⟨ret_int (by rw [← HE.out, HX.out]), rfl⟩
      · have hli : ¬ (k : Int) < (l.length : Int) := by omega
        go_wp2
        go_ret
        exact ⟨ret_int (by rw [← HE.out, HX.out]), rfl⟩
theorem digs_at {w : World} {B : Nat} {A : Option Addr} {ds : List Int} (h : Rd w B 1 A ds.length (digs ds)) {k : Nat} (hk : k < ds.length) : ∃ b off, A = some ⟨b, off, none⟩ ∧ b < B ∧ w.cell? ⟨b, off + k, none⟩ = some (.int .u64 ds[k]) := by
  obtain ⟨b, off, u, rfl, hb, hx, hc⟩ := Rd.at_ (j := 0) h hk (by omega)
  simp [digs, List.getElem?_eq_getElem hk] at hx
  subst hx
  exact ⟨b, off, rfl, hb, by simpa using hc⟩
set_option maxRecDepth 100000 in
theorem samePath_any (n a : Int) (ds : List Int) (A A' : Option Addr) (c c' B B' : Nat) (w : World) (h : Rd w B 1 A ds.length (digs ds)) (h' : Rd w B' 1 A' ds.length (digs ds)) (hB : B ≤ w.heap.size) (hB' : B' ≤ w.heap.size) (hl : ds.length ≤ maxLen) :
    Calls Try.prog 40 #[.agg #[.int .i64 n, .int .i64 a, .slice A ds.length c], .agg #[.int .i64 n, .int .i64 a, .slice A' ds.length c']] w fun e w' => e = .returned (.bool true) ∧ Below w.heap.size w w' := by
  have hm : maxLen ≤ 9223372036854775807 := by simp [maxLen]
  go_enter Try.func40, Try.ntmps40
  go_wp2
  go_loopw [5] (fun x wr => ∃ k : Nat, x = .int .i64 (k : Int) ∧ k ≤ ds.length ∧ Blk wr w.heap.size 58 #[.int .i64 n, .int .i64 a, .slice A ds.length c] ∧ Blk wr (w.heap.size + 1) 58 #[.int .i64 n, .int .i64 a, .slice A' ds.length c'] ∧ Below w.heap.size w wr) (fun x _ => ds.length - (intOf x).toNat)
  case atStart =>
    refine ⟨0, rfl, by omega, (Blk.new _ _ _).alloc _, ?_, ((Below.refl _ _).alloc (Nat.le_refl _) _).alloc (by simp) _⟩
    have hN := Blk.new (w.alloc (.cells #[.int .i64 n, .int .i64 a, .slice A ds.length c] 58)) 58 #[.int .i64 n, .int .i64 a, .slice A' ds.length c']
    simpa using hN
  case round =>
    obtain ⟨k, rfl, hk, hb1, hb2, hb⟩ := hrel
    have q0 := (hb1.cell 2).trans (show _ = some (.slice A ds.length c) from rfl)
    have q1 := (hb2.cell 2).trans (show _ = some (.slice A' ds.length c') from rfl)
    by_cases hlt : k < ds.length
    · have hli : (k : Int) < (ds.length : Int) := by omega
      obtain ⟨b, off, rfl, hbB, hc0⟩ := digs_at (h.below (hb.mono hB)) hlt
      obtain ⟨b', off', rfl, hbB', hc1⟩ := digs_at (h'.below (hb.mono hB')) hlt
      have r0 : wr.drew.cell? ⟨w.heap.size, 2, none⟩ = some (.slice (some ⟨b, off, none⟩) ds.length c) := q0
      have r1 : wr.drew.cell? ⟨w.heap.size + 1, 2, none⟩ = some (.slice (some ⟨b', off', none⟩) ds.length c') := q1
      have r2 : wr.drew.cell? ⟨b, off + k, none⟩ = some (.int .u64 ds[k]) := hc0
      have r3 : wr.drew.cell? ⟨b', off' + k, none⟩ = some (.int .u64 ds[k]) := hc1
      go_wp2
      go_quiet (fail)
      go_wp2
      go_roundw
      case rel => exact ⟨k + 1, by go_num, by omega, by first | exact hb1.drew | exact hb1 | exact hb1.drewN _, by first | exact hb2.drew | exact hb2 | exact hb2.drewN _, by first | exact hb.drew | exact hb | exact hb.drewN _⟩
      case measure => simp [intOf]; omega
    · have hli : ¬ (k : Int) < (ds.length : Int) := by omega
      go_wp2
      go_ret
      exact ⟨rfl, hb⟩
theorem path_all (wd at' : Int) (l : List (List UInt8)) (hl : l.length ≤ 65536) (hsh : Short l) : ∃ (n a : Int) (ds : List Int) (er : Int), ds.length ≤ maxLen ∧
    (∀ (w : World) (A : Option Addr) (c B : Nat), Strs w B A l → B ≤ w.heap.size → l.length ≤ c → c ≤ maxLen → Calls Try.prog 38 #[.int .i64 wd, .slice A l.length c, .int .i64 at'] w fun e w' => ∃ v, e = .returned (.tuple #[v, .int .i64 er]) ∧ IsPath w.heap.size w' v n a ds ∧ Below w.heap.size w w') ∧
    (∀ (w : World) (A : Option Addr) (c B : Nat), Strs w B A l → B ≤ w.heap.size → l.length ≤ c → c ≤ maxLen → Calls Try.prog 39 #[.int .i64 wd, .slice A l.length c, .int .i64 at'] w fun e w' => ∃ v, e = .returned (.tuple #[v, .int .i64 er]) ∧ IsPath w.heap.size w' v n a ds ∧ Below w.heap.size w w') := by
  by_cases hb : at' < 0 ∨ (l.length : Int) ≤ at'
  · refine ⟨0, 0, [], 30, by simp, fun w A c B _ _ _ _ => ?_, fun w A c B _ _ _ _ => ?_⟩
    · refine (path_bad wd at' l A c w hl hb).mono ?_
      rintro e w' ⟨rfl, h⟩
      exact ⟨_, rfl, ⟨none, 0, rfl, Rd.nil _ _ _ _, from_none _⟩, h⟩
    · refine (rpath_bad wd at' l A c w hl hb).mono ?_
      rintro e w' ⟨rfl, h⟩
      exact ⟨_, rfl, ⟨none, 0, rfl, Rd.nil _ _ _ _, from_none _⟩, h⟩
  · obtain ⟨k, rfl⟩ := Int.eq_ofNat_of_zero_le (show 0 ≤ at' by omega)
    have hk : k < l.length := by omega
    exact ⟨l.length, k, pathS wd l k, 0, by have := (pathF_bd l.length wd l k).1; unfold pathS; simp [maxLen]; omega, fun w A c B h hB hc hcm => path_any wd k l A c B w h hB hl hsh hc hcm hk, fun w A c B h hB hc hcm => rpath_any wd k l A c B w h hB hl hsh hc hcm hk⟩
set_option maxRecDepth 100000 in
set_option maxHeartbeats 2000000 in
theorem digestExact_walk (wd tag : Int) (l : List (List UInt8)) (A : Option Addr) (c : Nat) (at' : Int) (w : World) (h : Strs w w.heap.size A l) (hc : l.length ≤ c) (hcm : c ≤ maxLen) (hsh : Short l) :
    Calls Try.prog 8 #[.int .i64 wd, .int .i64 tag, .slice A l.length c, .int .i64 at'] w fun e w' => e = .returned (.bool true) ∧ Below w.heap.size w w' := by
  have hsum := sum_any l A c w.heap.size w h (by omega) hsh
  by_cases hs : sumW l (l.length : Int) ≤ 65536
  · have hl : l.length ≤ 65536 := by
      by_cases hn : (l.length : Int) ≤ 65536
      · omega
      · rw [sumW_big l _ hn] at hs; exact absurd hs hn
    have hlm : l.length ≤ maxLen := by omega
    have hs' : ¬ (65536 : Int) < sumW l (l.length : Int) := by omega
    obtain ⟨n, a, ds, er, hds, hp, hq⟩ := path_all wd at' l hl hsh
    have h1 := fun W hS hB => of_any wd tag l A c w.heap.size W hS hB hlm hsh
    have h2 := fun W hS hB => rof_any wd tag l A c w.heap.size W hS hB hlm hsh
    have h3 := fun W hS hB => ofImage_any wd tag l A c w.heap.size W hS hB hlm hsh
    have h4 := fun W hS hB => root_any wd l A c w.heap.size W hS hB hl hsh hc hcm
    have h5 := fun W hS hB => rroot_any wd l A c w.heap.size W hS hB hl hsh hc hcm
    generalize ofS wd tag l = x at *
    generalize rootS wd l = y at *
    generalize hsw : sumW l (l.length : Int) = sw at *
    go_enter Try.func8, Try.ntmps8
    go_wp2_with fail
    refine hsum.mono ?_
    rintro e w0 ⟨rfl, rfl⟩
    go_wp2_with fail
    refine (h1 _ h (Nat.le_refl _)).mono ?_
    rintro e w1 ⟨rfl, g1⟩
    go_wp2_with fail
    refine (h2 _ (h.below g1) g1.size).mono ?_
    rintro e w2 ⟨rfl, b2⟩
    have g2 := g1.trans (b2.mono g1.size)
    go_wp2_with fail
    refine (h3 _ (h.below g2) g2.size).mono ?_
    rintro e w3 ⟨rfl, b3⟩
    have g3 := g2.trans (b3.mono g2.size)
    go_wp2_with fail
    refine (h4 _ (h.below g3) g3.size).mono ?_
    rintro e w4 ⟨rfl, b4⟩
    have g4 := g3.trans (b4.mono g3.size)
    go_wp2_with fail
    refine (h5 _ (h.below g4) g4.size).mono ?_
    rintro e w5 ⟨rfl, b5⟩
    have g5 := g4.trans (b5.mono g4.size)
    go_wp2_with fail
    refine (hp _ A c w.heap.size (h.below g5) g5.size hc hcm).mono ?_
    rintro e w6 ⟨v1, rfl, ⟨A1, c1, rfl, r1, f1⟩, b6⟩
    have g6 := g5.trans (b6.mono g5.size)
    have g6a := g6.alloc g6.size (.cells #[.int .i64 n, .int .i64 a, .slice A1 ds.length c1] 58)
    go_wp2_with fail
    refine (hq _ A c w.heap.size (h.below g6a) g6a.size hc hcm).mono ?_
    rintro e w7 ⟨v2, rfl, ⟨A2, c2, rfl, r2, f2⟩, b7⟩
    have g7 := g6a.trans (b7.mono g6a.size)
    have hblk := blk_laid b7 (by simp)
    have k0 := hblk.cell_a 0 _ rfl
    have k1 := hblk.cell_a 1 _ rfl
    have k2 := hblk.cell_a 2 _ rfl
    have r17 := (r1.alloc (Nat.le_refl _) (.cells #[.int .i64 n, .int .i64 a, .slice A1 ds.length c1] 58)).below (b7.mono (by simp))
    have s7 := b7.size
    simp at s7
    go_wp2_with fail
    refine (samePath_any n a ds A1 A2 c1 c2 w6.heap.size w7.heap.size _ (r17.alloc (by omega) _) (r2.alloc (Nat.le_refl _) _) (by simp; omega) (by simp) hds).mono ?_
    rintro e w8 ⟨rfl, b8⟩
    have g8 := (g7.alloc g7.size _).trans (b8.mono (by have := g7.size; simp; omega))
    go_wp2
    go_ret
    exact ⟨rfl, g8⟩
  · have hs' : (65536 : Int) < sumW l (l.length : Int) := by omega
    generalize hsw : sumW l (l.length : Int) = sw at *
    go_enter Try.func8, Try.ntmps8
    go_wp2_with fail
    refine hsum.mono ?_
    rintro e w0 ⟨rfl, rfl⟩
    go_wp2
    go_ret
    exact ⟨rfl, Below.refl _ _⟩

namespace digestExact
open Go.ChangeShapes Go.WideShapes Go.ChangeAt Go.RowKit
set_option linter.unusedVariables false
set_option maxRecDepth 100000 in
theorem walk {H : Type} (enc : TypeId × Value → H) : LawWalk enc Try.prog Try.f8 8 := by
  intro W args ds p hA hval hlt hfz
  rw [Try.params8] at hA hval
  obtain ⟨v0, vs0, d0, ds0, p0, q0, hargs, rfl, rfl, h0, r0⟩ := trodAll_cons hA
  obtain ⟨v1, vs1, d1, ds1, p1, q1, rfl, rfl, rfl, h1, r1⟩ := trodAll_cons r0
  obtain ⟨v2, vs2, d2, ds2, p2, q2, rfl, rfl, rfl, h2, r2⟩ := trodAll_cons r1
  obtain ⟨v3, vs3, d3, ds3, p3, q3, rfl, rfl, rfl, h3, r3⟩ := trodAll_cons r2
  obtain ⟨rfl, rfl, rfl⟩ := trodAll_nil r3
  obtain rfl : args = #[v0, v1, v2, v3] := by cases args; simp_all
  obtain ⟨a0, rfl, _, _, wa0⟩ := open_int Try.underlying3 (hval 0 _ v0 rfl rfl) h0
  obtain ⟨a1, rfl, _, _, wa1⟩ := open_int Try.underlying3 (hval 1 _ v1 rfl rfl) h1
  obtain ⟨A2, c2, l2, rfl, lc2, cm2, hl2, hw2⟩ := open_strs (hval 2 _ v2 rfl rfl) h2
  obtain ⟨a3, rfl, _, _, wa3⟩ := open_int Try.underlying3 (hval 3 _ v3 rfl rfl) h3
  exact digestExact_walk a0 a1 l2 A2 c2 a3 W hl2 lc2 cm2 hw2
set_option maxRecDepth 100000 in
theorem over : Rows.digestExactRow.holds Try.pinned (OpenSpec.ofChange Rows.digestExactSpec) :=
  OpenClaim.holds_of_wide 8 Try.f8 rfl rfl rfl rfl rfl rfl rfl ⟨rfl, rfl, rfl, rfl, rfl⟩ rfl rfl rfl rfl rfl (by kernel_rfl) Try.func8 (by kernel_rfl)
    (of_decide_eq_true (by kernel_rfl)) (by unfold Func.isWrapper; first | (rw [if_pos (by decide +kernel)]; kernel_rfl) | (rw [if_neg (by decide +kernel)]; exact ⟨rfl, rfl⟩))
    (fun os started H enc _ => law_lift (C := Try.checked) (s := Rows.digestExactSpec) (by kernel_rfl) started (by kernel_rfl) Try.func8 (by kernel_rfl) (by kernel_rfl) rfl rfl Try.underlying4
      (fun ds h => match ds, h with | [_, _, _, _], _ => rfl)
      (ChangeSpec.witness6 (enc := enc) (C := Try.checked) false ⟨#[], #[.int .i64 0, .int .i64 0, .slice none 0 0, .int .i64 0], []⟩ 8 (by kernel_rfl) (by kernel_rfl) (by kernel_rfl) (by kernel_rfl))
      (walk enc))
end digestExact
/-- the statement -/
theorem digestExact_holds : Rows.DigestExactSaid := digestExact.over
#print axioms digestExact_holds
end Go.Proofs.Ytdgifhgiablgdaa
