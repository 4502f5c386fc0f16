/- Of the texts PfB, Pf8. -/
import Derived.Test.YtjjkdmngmopjbaaProg
import Derived.Test.YtjjkdmngmopjbaaG38
import Derived.RegionTactic
import Derived.BigRegion
import Derived.Test.YtjjkdmngmopjbaaG37
import Derived.Test.YtjjkdmngmopjbaaG33
import Derived.Deep.RegionHeld3
namespace Go.Proofs.Ytjjkdmngmopjbaa
open Go.RowKit
theorem images_any7 (wd : Int) (k : Key) (x : ProofD) (B : Nat) (w : World) (hx : x.held w B) (hB : B ≤ w.heap.size) (hl : proofM x ≤ 10000000) :
    Calls Try.prog 85 #[.int .i64 wd, .string (bs k), x.val] w (RowAns w (climbE k x) (climbL wd k x).reverse) := by
  by_cases h : 32 < k.length
  · exact images_long wd k x w h
  · by_cases hr : (Out.empty.proof x).re = 0
    · cases hf : x.leaf
      · exact images_none wd k x B w (by omega) hx hB hl hr hf
      · exact images_some wd k x B w (by omega) hx hB hl hr hf
    · exact images_bad wd k x B w (by omega) hx hB hl hr
set_option maxRecDepth 100000 in
set_option maxHeartbeats 2000000 in
theorem check_any (wd R : Int) (k : Key) (x : ProofD) (B : Nat) (w : World) (hx : x.held w B) (hB : B ≤ w.heap.size) (hl : proofM x ≤ 10000000) :
    Calls Try.prog 44 #[.int .i64 wd, .int .u64 R, .string (bs k), x.val] w fun e w' => e = .returned (.tuple #[.string (bs (checkV wd R k x)), .int .i64 (checkE wd R k x)]) ∧ Below w.heap.size w w' := by
  have hc := fun W g1 g2 => images_any7 wd k x B W g1 g2 hl
  obtain ⟨r, hr, hrl⟩ := climbL_top wd k x
  have hp := topI_parts wd k x
  have HE : Hid (checkE wd R k x = if climbE k x ≠ 0 then climbE k x else if topP wd k x ≠ R then 5 else 0) := rfl
  have HV : Hid (checkV wd R k x = if checkE wd R k x = 0 ∧ x.key = k then x.value else []) := rfl
  have HT : Hid (topP wd k x = ofS wd (topI wd k x).1 (topI wd k x).2) := rfl
  rw [hr] at hc
  generalize checkV wd R k x = V at *
  generalize checkE wd R k x = E at *
  generalize climbE k x = C at *
  generalize topP wd k x = T at *
  generalize topI wd k x = z at *
  have hlen : x.turns.length ≤ 10000000 := by
    have := turns_M x.turns
    unfold proofM at hl
    omega
  have hx' := fun W (g : Below w.heap.size w W) => hx.below (g.mono hB)
  clear hr
  obtain ⟨ts, ta, tc, lf, a, vv⟩ := x
  dsimp only [ProofD.val] at *
  have hb0 : Below w.heap.size w (w.alloc (.cells #[.slice ta ts.length tc, .bool lf, .string (bs a), .string (bs vv)] 70)) := (Below.refl _ _).alloc (Nat.le_refl _) _
  have hP : Blk (w.alloc (.cells #[.slice ta ts.length tc, .bool lf, .string (bs a), .string (bs vv)] 70)) w.heap.size 70 #[.slice ta ts.length tc, .bool lf, .string (bs a), .string (bs vv)] := Blk.new _ _ _
  have hxb := hx' _ hb0
  clear hx'
  go_enter Try.func44, Try.ntmps44
  go_wp2_with fail
  refine (hc _ hxb (Nat.le_trans hB hb0.size)).mono ?_
  rintro e w1 ⟨hb1, ⟨hC, rfl⟩ | ⟨rfl, v, xs, rfl, hown, himg⟩⟩
  · have hCC : (C != 0) = true := by simpa using hC
    have HE2 : Hid (E = C) := by show _ = _; rw [HE.out, if_pos hC]
    have HV2 : Hid (V = []) := by show _ = _; rw [HV.out, if_neg]; rw [HE2.out]; exact fun h => hC h.1
    clear hC
    go_wp2_with fail
    exact bodyPost_ret (v := .tuple #[.string (bs []), .int .i64 C]) (by simp [results, Try.results44, go_sem]; rfl) rfl ⟨by rw [HE2.out, HV2.out], hb0.trans (hb1.mono hb0.size)⟩
  · obtain ⟨vA, vc, rfl⟩ := own_shape hown
    rw [List.length_append, List.length_singleton] at hown himg
    obtain ⟨b, off, A', c', rfl, _, k0, k1, hs⟩ := row_last hown himg
    have hP1 := hP.below hb1 hP.lt
    have hb01 := hb0.trans (hb1.mono hb0.size)
    have hw1 : IntKind.i64.wrap (((r.length + 1 : Nat) : Int) - 1) = (r.length : Int) := by rw [IntWalk.i64_in _ (by omega)]; omega
    have hw2 : IntKind.i64.wrap ((r.length : Int) + 1 - 1) = (r.length : Int) := by rw [IntWalk.i64_in _ (by omega)]; omega
    have hw3 : (r.length : Int) < (r.length : Int) + 1 := by omega
    have hw4 : (0 : Int) ≤ (r.length : Int) := by omega
    have hof := ofImage_any wd z.1 z.2 A' c' w1.heap.size w1 hs (Nat.le_refl _) hp.1 hp.2
    rw [← HT.out] at hof
    clear hP himg hown hc hp
    go_wp2_with fail
    refine hof.mono ?_
    rintro e w2 ⟨rfl, hb2⟩
    have hP2 := hP1.below hb2 hP1.lt
    have hb02 := hb01.trans (hb2.mono hb01.size)
    have p2 := (hP2.cell 2).trans (show _ = some (Value.string (bs a)) from rfl)
    have p3 := (hP2.cell 3).trans (show _ = some (Value.string (bs vv)) from rfl)
    clear hof hP1 hP2 hb1 hb2 hb01
    by_cases hT : T = R
    · subst hT
      have HE2 : Hid (E = 0) := by show _ = _; rw [HE.out, if_neg (by simp), if_neg (by simp)]
      by_cases ha : a = k
      · subst ha
        have HV2 : Hid (V = vv) := by show _ = _; rw [HV.out, if_pos ⟨HE2.out, rfl⟩]
        go_wp2_with fail
        exact bodyPost_ret (v := .tuple #[.string (bs vv), .int .i64 0]) (by simp [results, Try.results44, go_sem]) rfl ⟨by rw [HE2.out, HV2.out], hb02⟩
      · have hak : (a == k) = false := beq_eq_false_iff_ne.2 ha
        have hak2 : (a != k) = true := by simpa using ha
        have HV2 : Hid (V = []) := by show _ = _; rw [HV.out, if_neg (fun h => ha h.2)]
        go_wp2_with fail
        exact bodyPost_ret (v := .tuple #[.string (bs []), .int .i64 0]) (by simp [results, Try.results44, go_sem]; rfl) rfl ⟨by rw [HE2.out, HV2.out], hb02⟩
    · have hTR : (T == R) = false := beq_eq_false_iff_ne.2 hT
      have hTR2 : (T != R) = true := by simpa using hT
      have HE2 : Hid (E = 5) := by show _ = _; rw [HE.out, if_neg (by simp), if_pos hT]
      have HV2 : Hid (V = []) := by show _ = _; rw [HV.out, if_neg]; rw [HE2.out]; simp
      go_wp2_with fail
      exact bodyPost_ret (v := .tuple #[.string (bs []), .int .i64 5]) (by simp [results, Try.results44, go_sem]; rfl) rfl ⟨by rw [HE2.out, HV2.out], hb02⟩
end Go.Proofs.Ytjjkdmngmopjbaa

namespace Go.Proofs.Ytjjkdmngmopjbaa
open Go.RowKit
set_option maxRecDepth 100000 in
set_option maxHeartbeats 4000000 in
theorem clashP_any (wd R : Int) (K : Key) (x y : ProofD) (B : Nat) (w : World) (hx : x.held w B) (hy : y.held w B) (hB : B ≤ w.heap.size) (hl : proofM x ≤ 10000000) (hl' : proofM y ≤ 10000000) :
    Calls Try.prog 45 #[.int .i64 wd, .int .u64 R, .string (bs K), x.val, y.val] w (ClashAns w w.heap.size (clashP wd R K x y)) := by
  have HC : Hid (clashP wd R K x y = if checkE wd R K x ≠ 0 ∨ checkE wd R K y ≠ 0 ∨ checkV wd R K x = checkV wd R K y then none else unl (climbL wd K x) (climbL wd K y)) := rfl
  have HX := Lib.hid (fun h1 h2 h3 => clash_exP wd R K x y h1 h2 h3)
  generalize clashP wd R K x y = o at *
  have hch := fun W g1 g2 => check_any wd R K x B W g1 g2 hl
  have hch' := fun W g1 g2 => check_any wd R K y B W g1 g2 hl'
  have hcl := fun W g1 g2 => images_any7 wd K x B W g1 g2 hl
  have hcl' := fun W g1 g2 => images_any7 wd K y B W g1 g2 hl'
  have hc1 : checkE wd R K x = 0 → climbE K x = 0 := fun h => (checkE_zero h).1
  have hc2 : checkE wd R K y = 0 → climbE K y = 0 := fun h => (checkE_zero h).1
  have hz1 : ∀ a ∈ (climbL wd K x).reverse, a.2.length ≤ maxLen := fun a ha => climbL_lens wd K x a (List.mem_reverse.1 ha)
  have hz2 : ∀ a ∈ (climbL wd K y).reverse, a.2.length ≤ maxLen := fun a ha => climbL_lens wd K y a (List.mem_reverse.1 ha)
  have hn1 : (climbL wd K x).reverse.length ≤ 1000000002 := by
    have h1 := climbL_len wd K x
    have h2 := turns_M x.turns
    unfold proofM at hl
    rw [List.length_reverse]; omega
  have hn2 : (climbL wd K y).reverse.length ≤ 1000000002 := by
    have h1 := climbL_len wd K y
    have h2 := turns_M y.turns
    unfold proofM at hl'
    rw [List.length_reverse]; omega
  have hr1 : climbL wd K x = (climbL wd K x).reverse.reverse := (List.reverse_reverse _).symm
  have hr2 : climbL wd K y = (climbL wd K y).reverse.reverse := (List.reverse_reverse _).symm
  rw [hr1, hr2] at HC HX
  clear hr1 hr2
  generalize (climbL wd K x).reverse = l at *
  generalize (climbL wd K y).reverse = m at *
  generalize climbE K x = C1 at *
  generalize climbE K y = C2 at *
  generalize checkE wd R K x = E1 at *
  generalize checkE wd R K y = E2 at *
  generalize checkV wd R K x = V1 at *
  generalize checkV wd R K y = V2 at *
  obtain ⟨ts, ta, tc, lf, a, vv⟩ := x
  obtain ⟨us, ua, uc, lg, b, vw⟩ := y
  dsimp only [ProofD.val] at *
  obtain ⟨W, hW, hWs, hWb, hP, hQ, hR0, hR1⟩ := four_blks w 70 70 106 106 #[.slice ta ts.length tc, .bool lf, .string (bs a), .string (bs vv)] #[.slice ua us.length uc, .bool lg, .string (bs b), .string (bs vw)] #[.int .i64 0, .slice none 0 0] #[.int .i64 0, .slice none 0 0]
  have HW := Lib.hid hW
  have hWl : w.heap.size + 4 ≤ W.heap.size := by omega
  clear hW hWs
  go_enter Try.func45, Try.ntmps45
  go_upto_region 1 with fail
  rw [HW.out]
  clear HW
  have hxW := hx.below (hWb.mono hB)
  have hyW := hy.below (hWb.mono hB)
  have hBW : B ≤ W.heap.size := by omega
  have p0 := (hP.cell 0).trans (show _ = some (Value.slice ta ts.length tc) from rfl)
  have p1 := (hP.cell 1).trans (show _ = some (Value.bool lf) from rfl)
  have p2 := (hP.cell 2).trans (show _ = some (Value.string (bs a)) from rfl)
  have p3 := (hP.cell 3).trans (show _ = some (Value.string (bs vv)) from rfl)
  go_wp2_with fail
  refine (hch W hxW hBW).mono ?_
  rintro e w1 ⟨rfl, hb1⟩
  have hQ1 := hQ.below hb1 hQ.lt
  have q0 := (hQ1.cell 0).trans (show _ = some (Value.slice ua us.length uc) from rfl)
  have q1 := (hQ1.cell 1).trans (show _ = some (Value.bool lg) from rfl)
  have q2 := (hQ1.cell 2).trans (show _ = some (Value.string (bs b)) from rfl)
  have q3 := (hQ1.cell 3).trans (show _ = some (Value.string (bs vw)) from rfl)
  have hb1s := hb1.size
  go_wp2_with fail
  refine (hch' w1 (hyW.below (hb1.mono hBW)) (by omega)).mono ?_
  rintro e w2 ⟨rfl, hb2⟩
  have hb12 := hb1.trans (hb2.mono hb1s)
  have hP2 := hP.below hb12 hP.lt
  have hQ2 := hQ.below hb12 hQ.lt
  have hR02 := hR0.below hb12 hR0.lt
  have hR12 := hR1.below hb12 hR1.lt
  have hbel2 := hWb.trans (hb12.mono (by omega))
  have hx2 := hxW.below (hb12.mono hBW)
  have hy2 := hyW.below (hb12.mono hBW)
  have hw2 : w.heap.size + 4 ≤ w2.heap.size := by have := hb12.size; omega
  clear p0 p1 p2 p3 q0 q1 q2 q3 hQ1 hP hQ hR0 hR1 hxW hyW hb12 hb1 hb2 hch hch' hWb hBW hWl hb1s hx hy
  by_cases h1 : E1 = 0
  case neg =>
    as_aux_lemma =>
    have HO : Hid (o = none) := by show _ = _; rw [HC.out, if_pos (.inl h1)]
    have d1 : (E1 != 0) = true := by simpa using h1
    clear HC HX hc1 hc2 hcl hcl' h1 hx2 hy2
    go_upto_region 4 with fail
    have z0 := (hR02.cell 0).trans (show _ = some (Value.int .i64 0) from rfl)
    have z1 := (hR02.cell 1).trans (show _ = some (Value.slice none 0 0) from rfl)
    have y0 := (hR12.cell 0).trans (show _ = some (Value.int .i64 0) from rfl)
    have y1 := (hR12.cell 1).trans (show _ = some (Value.slice none 0 0) from rfl)
    have f0 := hR02.frozen 0
    have f1 := hR02.frozen 1
    have g0 := hR12.frozen 0
    have g1 := hR12.frozen 1
    go_region
    all_goals
      have hs0 := (((hR02.set_ 0 (.int .i64 0)).set_ 1 (.slice none 0 0)).far (p := ⟨w.heap.size + 3, 0, none⟩) (by simp) (.int .i64 0) |>.far (p := ⟨w.heap.size + 3, 1, none⟩) (by simp) (.slice none 0 0)).drew
      have hs1 := ((((hR12.far (p := ⟨w.heap.size + 2, 0, none⟩) (by simp) (.int .i64 0)).far (p := ⟨w.heap.size + 2, 1, none⟩) (by simp) (.slice none 0 0)).set_ 0 (.int .i64 0)).set_ 1 (.slice none 0 0)).drew
      have v0 := (hs0.cell 0).trans (show _ = some (Value.int .i64 0) from rfl)
      have v1 := (hs0.cell 1).trans (show _ = some (Value.slice none 0 0) from rfl)
      have v2 := (hs1.cell 0).trans (show _ = some (Value.int .i64 0) from rfl)
      have v3 := (hs1.cell 1).trans (show _ = some (Value.slice none 0 0) from rfl)
      have hfin := ((((hbel2.setCell (p := ⟨w.heap.size + 2, 0, none⟩) (by simp) (.int .i64 0)).setCell (p := ⟨w.heap.size + 2, 1, none⟩) (by simp) (.slice none 0 0)).setCell (p := ⟨w.heap.size + 3, 0, none⟩) (by simp) (.int .i64 0)).setCell (p := ⟨w.heap.size + 3, 1, none⟩) (by simp) (.slice none 0 0)).drew
      go_wp2_with fail
      refine bodyPost_ret (v := .tuple #[.agg #[.int .i64 0, .slice none 0 0], .agg #[.int .i64 0, .slice none 0 0], .bool false]) (by simp [results, Try.results45, go_sem, v0, v1, v2, v3]) rfl ⟨hfin, .inl ⟨HO.out, rfl⟩⟩
  subst h1
  by_cases h2 : E2 = 0
  case neg =>
    as_aux_lemma =>
    have HO : Hid (o = none) := by show _ = _; rw [HC.out, if_pos (.inr (.inl h2))]
    have d1 : (E2 != 0) = true := by simpa using h2
    clear HC HX hc1 hc2 hcl hcl' h2 hx2 hy2
    go_upto_region 4 with fail
    have z0 := (hR02.cell 0).trans (show _ = some (Value.int .i64 0) from rfl)
    have z1 := (hR02.cell 1).trans (show _ = some (Value.slice none 0 0) from rfl)
    have y0 := (hR12.cell 0).trans (show _ = some (Value.int .i64 0) from rfl)
    have y1 := (hR12.cell 1).trans (show _ = some (Value.slice none 0 0) from rfl)
    have f0 := hR02.frozen 0
    have f1 := hR02.frozen 1
    have g0 := hR12.frozen 0
    have g1 := hR12.frozen 1
    go_region
    all_goals
      have hs0 := (((hR02.set_ 0 (.int .i64 0)).set_ 1 (.slice none 0 0)).far (p := ⟨w.heap.size + 3, 0, none⟩) (by simp) (.int .i64 0) |>.far (p := ⟨w.heap.size + 3, 1, none⟩) (by simp) (.slice none 0 0)).drew
      have hs1 := ((((hR12.far (p := ⟨w.heap.size + 2, 0, none⟩) (by simp) (.int .i64 0)).far (p := ⟨w.heap.size + 2, 1, none⟩) (by simp) (.slice none 0 0)).set_ 0 (.int .i64 0)).set_ 1 (.slice none 0 0)).drew
      have v0 := (hs0.cell 0).trans (show _ = some (Value.int .i64 0) from rfl)
      have v1 := (hs0.cell 1).trans (show _ = some (Value.slice none 0 0) from rfl)
      have v2 := (hs1.cell 0).trans (show _ = some (Value.int .i64 0) from rfl)
      have v3 := (hs1.cell 1).trans (show _ = some (Value.slice none 0 0) from rfl)
      have hfin := ((((hbel2.setCell (p := ⟨w.heap.size + 2, 0, none⟩) (by simp) (.int .i64 0)).setCell (p := ⟨w.heap.size + 2, 1, none⟩) (by simp) (.slice none 0 0)).setCell (p := ⟨w.heap.size + 3, 0, none⟩) (by simp) (.int .i64 0)).setCell (p := ⟨w.heap.size + 3, 1, none⟩) (by simp) (.slice none 0 0)).drew
      go_wp2_with fail
      refine bodyPost_ret (v := .tuple #[.agg #[.int .i64 0, .slice none 0 0], .agg #[.int .i64 0, .slice none 0 0], .bool false]) (by simp [results, Try.results45, go_sem, v0, v1, v2, v3]) rfl ⟨hfin, .inl ⟨HO.out, rfl⟩⟩
  subst h2
  by_cases h3 : V1 = V2
  case pos =>
    as_aux_lemma =>
    have HO : Hid (o = none) := by show _ = _; rw [HC.out, if_pos (.inr (.inr h3))]
    subst h3
    clear HC HX hc1 hc2 hcl hcl' hx2 hy2
    go_upto_region 4 with fail
    have z0 := (hR02.cell 0).trans (show _ = some (Value.int .i64 0) from rfl)
    have z1 := (hR02.cell 1).trans (show _ = some (Value.slice none 0 0) from rfl)
    have y0 := (hR12.cell 0).trans (show _ = some (Value.int .i64 0) from rfl)
    have y1 := (hR12.cell 1).trans (show _ = some (Value.slice none 0 0) from rfl)
    have f0 := hR02.frozen 0
    have f1 := hR02.frozen 1
    have g0 := hR12.frozen 0
    have g1 := hR12.frozen 1
    go_region
    all_goals
      have hs0 := (((hR02.set_ 0 (.int .i64 0)).set_ 1 (.slice none 0 0)).far (p := ⟨w.heap.size + 3, 0, none⟩) (by simp) (.int .i64 0) |>.far (p := ⟨w.heap.size + 3, 1, none⟩) (by simp) (.slice none 0 0)).drew
      have hs1 := ((((hR12.far (p := ⟨w.heap.size + 2, 0, none⟩) (by simp) (.int .i64 0)).far (p := ⟨w.heap.size + 2, 1, none⟩) (by simp) (.slice none 0 0)).set_ 0 (.int .i64 0)).set_ 1 (.slice none 0 0)).drew
      have v0 := (hs0.cell 0).trans (show _ = some (Value.int .i64 0) from rfl)
      have v1 := (hs0.cell 1).trans (show _ = some (Value.slice none 0 0) from rfl)
      have v2 := (hs1.cell 0).trans (show _ = some (Value.int .i64 0) from rfl)
      have v3 := (hs1.cell 1).trans (show _ = some (Value.slice none 0 0) from rfl)
      have hfin := ((((hbel2.setCell (p := ⟨w.heap.size + 2, 0, none⟩) (by simp) (.int .i64 0)).setCell (p := ⟨w.heap.size + 2, 1, none⟩) (by simp) (.slice none 0 0)).setCell (p := ⟨w.heap.size + 3, 0, none⟩) (by simp) (.int .i64 0)).setCell (p := ⟨w.heap.size + 3, 1, none⟩) (by simp) (.slice none 0 0)).drew
      go_wp2_with fail
      refine bodyPost_ret (v := .tuple #[.agg #[.int .i64 0, .slice none 0 0], .agg #[.int .i64 0, .slice none 0 0], .bool false]) (by simp [results, Try.results45, go_sem, v0, v1, v2, v3]) rfl ⟨hfin, .inl ⟨HO.out, rfl⟩⟩
  have HO : Hid (o = unl l.reverse m.reverse) := by show _ = _; rw [HC.out, if_neg (by simp [h3])]
  have HN : Hid (∃ x y, o = some (x, y)) := by
    obtain ⟨x, y, e, _⟩ := HX.out rfl rfl h3
    exact ⟨x, y, HO.out.trans e⟩
  obtain rfl := hc1 rfl
  obtain rfl := hc2 rfl
  have d3 : (V1 == V2) = false := beq_eq_false_iff_ne.2 h3
  have h3' : ¬ bs V1 = bs V2 := fun e => h3 (bs_inj e)
  clear HC HX hc1 hc2
  have p0 := (hP2.cell 0).trans (show _ = some (Value.slice ta ts.length tc) from rfl)
  have p1 := (hP2.cell 1).trans (show _ = some (Value.bool lf) from rfl)
  have p2 := (hP2.cell 2).trans (show _ = some (Value.string (bs a)) from rfl)
  have p3 := (hP2.cell 3).trans (show _ = some (Value.string (bs vv)) from rfl)
  go_wp2_with fail
  refine (hcl _ hx2 (by omega)).mono ?_
  rintro e w3 ⟨hb3, ⟨hne, _⟩ | ⟨_, v3, xs3, rfl, hown3, himg3⟩⟩
  · exact absurd rfl hne
  obtain ⟨A3, c3, rfl⟩ := own_shape hown3
  have hi3 := ImgR.of hown3 himg3
  have hb3s := hb3.size
  have hQ3 := hQ2.below hb3 hQ2.lt
  have q0 := (hQ3.cell 0).trans (show _ = some (Value.slice ua us.length uc) from rfl)
  have q1 := (hQ3.cell 1).trans (show _ = some (Value.bool lg) from rfl)
  have q2 := (hQ3.cell 2).trans (show _ = some (Value.string (bs b)) from rfl)
  have q3 := (hQ3.cell 3).trans (show _ = some (Value.string (bs vw)) from rfl)
  clear hown3 himg3
  go_wp2_with fail
  refine (hcl' w3 (hy2.below (hb3.mono (by omega))) (by omega)).mono ?_
  rintro e w4 ⟨hb4, ⟨hne, _⟩ | ⟨_, v4, xs4, rfl, hown4, himg4⟩⟩
  · exact absurd rfl hne
  obtain ⟨A4, c4, rfl⟩ := own_shape hown4
  have hi4 := ImgR.of hown4 himg4
  have hb4s := hb4.size
  have hb34 := hb3.trans (hb4.mono hb3s)
  have hR04 := hR02.below hb34 hR02.lt
  have hR14 := hR12.below hb34 hR12.lt
  have hbel4 := hbel2.trans (hb34.mono (by omega))
  have hi34 := ImgR.more (hi3.below hb4) hb4s (Nat.le_refl w2.heap.size)
  have hi44 := ImgR.more hi4 (Nat.le_refl _) hb3s
  have hw4 : w2.heap.size ≤ w4.heap.size := by omega
  clear p0 p1 p2 p3 q0 q1 q2 q3 hQ3 hR02 hR12 hbel2 hi3 hi4 hcl hcl' hb3 hb4 hb34 hx2 hy2 hP2 hQ2 hown4 himg4 hb3s hb4s
  go_wp2_with fail
  go_loopw [21] (fun i wr => ∃ k : Nat, i = .int .i64 ((k : Int) + 1) ∧ o = unl (l.reverse.drop k) (m.reverse.drop k) ∧ Blk wr (w.heap.size + 2) 106 #[.int .i64 0, .slice none 0 0] ∧ Blk wr (w.heap.size + 3) 106 #[.int .i64 0, .slice none 0 0] ∧ Below w4.heap.size w4 wr) (fun i _ => (l.length + 1 - (intOf i).toNat))
  case atStart => exact ⟨0, by go_num, HO.out, hR04, hR14, Below.refl _ _⟩
  case round =>
    obtain ⟨k, rfl, hu, hr0, hr1, hb⟩ := hrel
    clear hR04 hR14 HO
    have hkk : k < l.length ∧ k < m.length := by
      obtain ⟨x, y, e⟩ := HN.out
      by_cases h : k < l.length → ¬ k < m.length
      · rw [hu, unl_end h] at e; cases e
      · constructor
        · exact Nat.lt_of_not_le fun h1 => h fun h2 => absurd h2 (by omega)
        · exact Nat.lt_of_not_le fun h1 => h fun _ => by omega
    obtain ⟨h1, h2⟩ := hkk
    have HU := Lib.hid hu
    clear hu
    have z0 := (hr0.cell 0).trans (show _ = some (Value.int .i64 0) from rfl)
    have hsz := hb.size
    obtain ⟨b, off, Ax, cx, rfl, hbB, kx0, kx1, hsx, hfx⟩ := (hi34.below hb) (l.length - 1 - k) (by omega)
    obtain ⟨b', off', Ay, cy, rfl, hbB', ky0, ky1, hsy, hfy⟩ := (hi44.below hb) (m.length - 1 - k) (by omega)
    have HX := Lib.hid (rev_drop l k h1)
    have HY := Lib.hid (rev_drop m k h2)
    have hxl := hz1 _ (List.getElem_mem (by omega : l.length - 1 - k < l.length))
    have hyl := hz2 _ (List.getElem_mem (by omega : m.length - 1 - k < m.length))
    generalize l[l.length - 1 - k] = x at *
    generalize m[m.length - 1 - k] = y at *
    have hw1 : IntKind.i64.wrap ((l.length : Int) - ((k : Int) + 1)) = ((l.length - 1 - k : Nat) : Int) := by rw [IntWalk.i64_in _ (by omega)]; omega
    have hw2 : IntKind.i64.wrap ((m.length : Int) - ((k : Int) + 1)) = ((m.length - 1 - k : Nat) : Int) := by rw [IntWalk.i64_in _ (by omega)]; omega
    have hw1' : wrap64 ((l.length : Int) - ((k : Int) + 1)) = ((l.length - 1 - k : Nat) : Int) := by rw [← IntWalk.i64_left]; exact hw1
    have hw2' : wrap64 ((m.length : Int) - ((k : Int) + 1)) = ((m.length - 1 - k : Nat) : Int) := by rw [← IntWalk.i64_left]; exact hw2
    have hx1 : l.length - 1 - k < l.length := by omega
    have hx2 : m.length - 1 - k < m.length := by omega
    generalize hI : l.length - 1 - k = I at *
    generalize hJ : m.length - 1 - k = J at *
    have hx1i : (I : Int) < (l.length : Int) := by omega
    have hx2i : (J : Int) < (m.length : Int) := by omega
    have hx1n : (0 : Int) ≤ (I : Int) := by omega
    have hx2n : (0 : Int) ≤ (J : Int) := by omega
    clear hI hJ
    have HR := Lib.hid hr1
    have HR0 := Lib.hid hr0
    clear z0 hr0 hr1
    go_upto_region 9 with fail
    go_cut [22, 23] (fun px py wc => ∃ Q0 Q1 : Nat, px = .pointer (some ⟨Q0, 0, none⟩) ∧ py = .pointer (some ⟨Q1, 0, none⟩) ∧ Blk wc Q0 106 #[.int .i64 x.1, .slice Ax x.2.length cx] ∧ Blk wc Q1 106 #[.int .i64 y.1, .slice Ay y.2.length cy] ∧ Below wr.heap.size wr wc ∧ wr.heap.size ≤ Q0 ∧ wr.heap.size ≤ Q1)
    case first =>
      as_aux_lemma =>
      have nb : ¬ b = wr.heap.size := by omega
      have nb1 : ¬ b = wr.heap.size + 1 := by omega
      have nb' : ¬ b' = wr.heap.size := by omega
      have nb1' : ¬ b' = wr.heap.size + 1 := by omega
      go_region_held3 (fun W => W.cell? ⟨b, off + I * 2, none⟩ = some (.int .i64 x.1) ∧ W.cell? ⟨b, off + I * 2 + 1, none⟩ = some (.slice Ax x.2.length cx) ∧ W.cell? ⟨b', off' + J * 2, none⟩ = some (.int .i64 y.1) ∧ W.cell? ⟨b', off' + J * 2 + 1, none⟩ = some (.slice Ay y.2.length cy)) (go_keep) (fail)
      all_goals
        go_wp2_with fail
        go_meet
        have hSX : wr.heap.size < (wr.alloc (.cells #[.int .i64 x.1, .slice Ax x.2.length cx] 106)).heap.size := by simp
        have hSY : wr.heap.size < (wr.alloc (.cells #[.int .i64 y.1, .slice Ay y.2.length cy] 106)).heap.size := by simp
        have hNX := Blk.new (wr.alloc (.cells #[.int .i64 x.1, .slice Ax x.2.length cx] 106)) 106 #[.int .i64 y.1, .slice Ay y.2.length cy]
        have hNY := Blk.new (wr.alloc (.cells #[.int .i64 y.1, .slice Ay y.2.length cy] 106)) 106 #[.int .i64 x.1, .slice Ax x.2.length cx]
        rw [show (wr.alloc (.cells #[.int .i64 x.1, .slice Ax x.2.length cx] 106)).heap.size = wr.heap.size + 1 from by simp] at hNX
        rw [show (wr.alloc (.cells #[.int .i64 y.1, .slice Ay y.2.length cy] 106)).heap.size = wr.heap.size + 1 from by simp] at hNY
        first
          | exact ⟨_, _, rfl, rfl, Blk.drew ((Blk.new _ _ _).alloc _), Blk.drew hNX, (((Below.refl _ _).alloc (Nat.le_refl _) _).alloc (Nat.le_of_lt hSX) _).drew, Nat.le_refl _, Nat.le_succ _⟩
          | exact ⟨_, _, rfl, rfl, Blk.drew hNY, Blk.drew ((Blk.new _ _ _).alloc _), (((Below.refl _ _).alloc (Nat.le_refl _) _).alloc (Nat.le_of_lt hSY) _).drew, Nat.le_succ _, Nat.le_refl _⟩
    case rest =>
      obtain ⟨Q0, Q1, rfl, rfl, hq0, hq1, hbc, hQ0, hQ1⟩ := hcut
      have hBG : w4.heap.size ≤ wr.heap.size := hsz
      have hr0 := (HR0.out).below hbc HR0.out.lt
      have hr1 := (HR.out).below hbc HR.out.lt
      have hsxc := Rd.below hsx (hbc.mono hBG)
      have hsyc := Rd.below hsy (hbc.mono hBG)
      have hbW := hb.trans (hbc.mono hBG)
      have hcs := hbc.size
      by_cases htag : x.1 = y.1
      case pos =>
        have htb : (x.1 == y.1) = true := by simpa using htag
        have htb2 : (x.1 != y.1) = false := by simpa using htag
        have hS : decide (x.2 = y.2) = sameI x y := by unfold sameI; simp [htag]
        clear htag
        have heq := eqStrs_any x.2 y.2 Ax Ay cx cy _ _ wc hsxc hsyc (by omega) (by omega) hxl hyl
        rw [hS] at heq
        clear hS
        have g0 := (hq0.cell 0).trans (show _ = some (Value.int .i64 x.1) from rfl)
        have g1 := (hq0.cell 1).trans (show _ = some (Value.slice Ax x.2.length cx) from rfl)
        have g2 := (hq1.cell 0).trans (show _ = some (Value.int .i64 y.1) from rfl)
        have g3 := (hq1.cell 1).trans (show _ = some (Value.slice Ay y.2.length cy) from rfl)
        go_wp2_with fail
        refine heq.mono ?_
        rintro e w5 ⟨rfl, hb5⟩
        clear heq
        have hq05 := hq0.below hb5 hq0.lt
        have hq15 := hq1.below hb5 hq1.lt
        have hr05 := hr0.below hb5 hr0.lt
        have hr15 := hr1.below hb5 hr1.lt
        have hbel5 := hbW.trans (hb5.mono (by omega))
        have hsx5 := Rd.below hsxc (hb5.mono (by omega))
        have hsy5 := Rd.below hsyc (hb5.mono (by omega))
        have hl1 := HR.out.lt
        have hz5 := hb5.size
        clear g0 g1 g2 g3 hq0 hq1 hr0 hr1 hsxc hsyc hsx hsy hbW hb5 kx0 kx1 ky0 ky1 HR HR0
        cases hsm : sameI x y
        · have hfin := hbel4.trans (hbel5.mono (by omega))
          have q00 := (hq05.cell 0).trans (show _ = some (Value.int .i64 x.1) from rfl)
          have q01 := (hq05.cell 1).trans (show _ = some (Value.slice Ax x.2.length cx) from rfl)
          have q10 := (hq15.cell 0).trans (show _ = some (Value.int .i64 y.1) from rfl)
          have q11 := (hq15.cell 1).trans (show _ = some (Value.slice Ay y.2.length cy) from rfl)
          have z0 := (hr05.cell 0).trans (show _ = some (Value.int .i64 0) from rfl)
          have z1 := (hr05.cell 1).trans (show _ = some (Value.slice none 0 0) from rfl)
          have y0 := (hr15.cell 0).trans (show _ = some (Value.int .i64 0) from rfl)
          have y1 := (hr15.cell 1).trans (show _ = some (Value.slice none 0 0) from rfl)
          have f0 := hr05.frozen 0
          have f1 := hr05.frozen 1
          have u0 := hr15.frozen 0
          have u1 := hr15.frozen 1
          have n1 : ¬ w.heap.size + 2 = Q1 := by omega
          have n2 : ¬ w.heap.size + 3 = Q0 := by omega
          have n3 : ¬ Q1 = w.heap.size + 2 := by omega
          have n4 : ¬ Q0 = w.heap.size + 3 := by omega
          go_wp2_with fail
          go_region
          all_goals
            have hs0 := (((hr05.set_ 0 (.int .i64 x.1)).set_ 1 (.slice Ax x.2.length cx)).far (p := ⟨w.heap.size + 3, 0, none⟩) (by simp) (.int .i64 y.1) |>.far (p := ⟨w.heap.size + 3, 1, none⟩) (by simp) (.slice Ay y.2.length cy)).drew
            have hs1 := ((((hr15.far (p := ⟨w.heap.size + 2, 0, none⟩) (by simp) (.int .i64 x.1)).far (p := ⟨w.heap.size + 2, 1, none⟩) (by simp) (.slice Ax x.2.length cx)).set_ 0 (.int .i64 y.1)).set_ 1 (.slice Ay y.2.length cy)).drew
            have v0 := (hs0.cell 0).trans (show _ = some (Value.int .i64 x.1) from rfl)
            have v1 := (hs0.cell 1).trans (show _ = some (Value.slice Ax x.2.length cx) from rfl)
            have v2 := (hs1.cell 0).trans (show _ = some (Value.int .i64 y.1) from rfl)
            have v3 := (hs1.cell 1).trans (show _ = some (Value.slice Ay y.2.length cy) from rfl)
            go_wp2_with fail
            refine bodyPost_ret (v := .tuple #[.agg #[.int .i64 x.1, .slice Ax x.2.length cx], .agg #[.int .i64 y.1, .slice Ay y.2.length cy], .bool true]) (by simp [results, Try.results45, go_sem, v0, v1, v2, v3]) rfl ⟨?_, .inr ⟨x, y, Ax, cx, Ay, cy, ?_, rfl, ?_, ?_, fun b off e => by have := hfx b off e; omega, fun b off e => by have := hfy b off e; omega⟩⟩
            · exact ((((hfin.setCell (by simp; omega) _).setCell (by simp; omega) _).setCell (by simp; omega) _).setCell (by simp; omega) _).drew
            · rw [HU.out, HX.out, HY.out, unl, hsm]; rfl
            · exact Rd.drew (Rd.more (Rd.setCellF (Rd.setCellF (Rd.setCellF (Rd.setCellF hsx5 hfx (by show _ + 2 < _; omega) _) hfx (by show _ + 2 < _; omega) _) hfx (by show _ + 3 < _; omega) _) hfx (by show _ + 3 < _; omega) _) (by simp [World.setCell]; omega))
            · exact Rd.drew (Rd.more (Rd.setCellF (Rd.setCellF (Rd.setCellF (Rd.setCellF hsy5 hfy (by show _ + 2 < _; omega) _) hfy (by show _ + 2 < _; omega) _) hfy (by show _ + 3 < _; omega) _) hfy (by show _ + 3 < _; omega) _) (by simp [World.setCell]; omega))
        · go_wp2_with fail
          go_roundw
          case rel =>
            refine ⟨k + 1, by go_num, ?_, hr05, hr15, hbel5⟩
            rw [HU.out, HX.out, HY.out, unl, hsm]; rfl
          case measure => simp [intOf]; omega
      case neg =>
        have g0 := (hq0.cell 0).trans (show _ = some (Value.int .i64 x.1) from rfl)
        have g1 := (hq0.cell 1).trans (show _ = some (Value.slice Ax x.2.length cx) from rfl)
        have g2 := (hq1.cell 0).trans (show _ = some (Value.int .i64 y.1) from rfl)
        have g3 := (hq1.cell 1).trans (show _ = some (Value.slice Ay y.2.length cy) from rfl)
        have hb5 : Below wc.heap.size wc wc := Below.refl _ _
        have hsm : sameI x y = false := by unfold sameI; simp [htag]
        have htb : (x.1 == y.1) = false := beq_eq_false_iff_ne.2 htag
        have htb2 : (x.1 != y.1) = true := by simpa using htag
        clear htag
        go_upto_region 11 with fail
        have hq05 := hq0.below hb5 hq0.lt
        have hq15 := hq1.below hb5 hq1.lt
        have hr05 := hr0.below hb5 hr0.lt
        have hr15 := hr1.below hb5 hr1.lt
        have hbel5 := hbW.trans (hb5.mono (by omega))
        have hsx5 := Rd.below hsxc (hb5.mono (by omega))
        have hsy5 := Rd.below hsyc (hb5.mono (by omega))
        have hl1 := HR.out.lt
        have hz5 := hb5.size
        clear g0 g1 g2 g3 hq0 hq1 hr0 hr1 hsxc hsyc hsx hsy hbW hb5 kx0 kx1 ky0 ky1 HR HR0
        have hfin := hbel4.trans (hbel5.mono (by omega))
        have q00 := (hq05.cell 0).trans (show _ = some (Value.int .i64 x.1) from rfl)
        have q01 := (hq05.cell 1).trans (show _ = some (Value.slice Ax x.2.length cx) from rfl)
        have q10 := (hq15.cell 0).trans (show _ = some (Value.int .i64 y.1) from rfl)
        have q11 := (hq15.cell 1).trans (show _ = some (Value.slice Ay y.2.length cy) from rfl)
        have z0 := (hr05.cell 0).trans (show _ = some (Value.int .i64 0) from rfl)
        have z1 := (hr05.cell 1).trans (show _ = some (Value.slice none 0 0) from rfl)
        have y0 := (hr15.cell 0).trans (show _ = some (Value.int .i64 0) from rfl)
        have y1 := (hr15.cell 1).trans (show _ = some (Value.slice none 0 0) from rfl)
        have f0 := hr05.frozen 0
        have f1 := hr05.frozen 1
        have u0 := hr15.frozen 0
        have u1 := hr15.frozen 1
        have n1 : ¬ w.heap.size + 2 = Q1 := by omega
        have n2 : ¬ w.heap.size + 3 = Q0 := by omega
        have n3 : ¬ Q1 = w.heap.size + 2 := by omega
        have n4 : ¬ Q0 = w.heap.size + 3 := by omega
        go_region
        all_goals
          have hs0 := (((hr05.set_ 0 (.int .i64 x.1)).set_ 1 (.slice Ax x.2.length cx)).far (p := ⟨w.heap.size + 3, 0, none⟩) (by simp) (.int .i64 y.1) |>.far (p := ⟨w.heap.size + 3, 1, none⟩) (by simp) (.slice Ay y.2.length cy)).drew
          have hs1 := ((((hr15.far (p := ⟨w.heap.size + 2, 0, none⟩) (by simp) (.int .i64 x.1)).far (p := ⟨w.heap.size + 2, 1, none⟩) (by simp) (.slice Ax x.2.length cx)).set_ 0 (.int .i64 y.1)).set_ 1 (.slice Ay y.2.length cy)).drew
          have v0 := (hs0.cell 0).trans (show _ = some (Value.int .i64 x.1) from rfl)
          have v1 := (hs0.cell 1).trans (show _ = some (Value.slice Ax x.2.length cx) from rfl)
          have v2 := (hs1.cell 0).trans (show _ = some (Value.int .i64 y.1) from rfl)
          have v3 := (hs1.cell 1).trans (show _ = some (Value.slice Ay y.2.length cy) from rfl)
          go_wp2_with fail
          refine bodyPost_ret (v := .tuple #[.agg #[.int .i64 x.1, .slice Ax x.2.length cx], .agg #[.int .i64 y.1, .slice Ay y.2.length cy], .bool true]) (by simp [results, Try.results45, go_sem, v0, v1, v2, v3]) rfl ⟨?_, .inr ⟨x, y, Ax, cx, Ay, cy, ?_, rfl, ?_, ?_, fun b off e => by have := hfx b off e; omega, fun b off e => by have := hfy b off e; omega⟩⟩
          · exact ((((hfin.setCell (by simp; omega) _).setCell (by simp; omega) _).setCell (by simp; omega) _).setCell (by simp; omega) _).drew
          · rw [HU.out, HX.out, HY.out, unl, hsm]; rfl
          · exact Rd.drew (Rd.more (Rd.setCellF (Rd.setCellF (Rd.setCellF (Rd.setCellF hsx5 hfx (by show _ + 2 < _; omega) _) hfx (by show _ + 2 < _; omega) _) hfx (by show _ + 3 < _; omega) _) hfx (by show _ + 3 < _; omega) _) (by simp [World.setCell]; omega))
          · exact Rd.drew (Rd.more (Rd.setCellF (Rd.setCellF (Rd.setCellF (Rd.setCellF hsy5 hfy (by show _ + 2 < _; omega) _) hfy (by show _ + 2 < _; omega) _) hfy (by show _ + 3 < _; omega) _) hfy (by show _ + 3 < _; omega) _) (by simp [World.setCell]; omega))
end Go.Proofs.Ytjjkdmngmopjbaa
