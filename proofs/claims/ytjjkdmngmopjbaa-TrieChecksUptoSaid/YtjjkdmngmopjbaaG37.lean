/- Of the texts Pf5, Pf6, Pf7. -/
import Derived.Test.YtjjkdmngmopjbaaProg
import Derived.Test.YtjjkdmngmopjbaaG36
import Derived.Test.YtjjkdmngmopjbaaG13
import Derived.Test.YtjjkdmngmopjbaaG21
namespace Go.Proofs.Ytjjkdmngmopjbaa
open Go.RowKit
theorem downP_lens (wd : Int) (k : Key) (e : ImgP) (he : e.2.length ≤ 3) : ∀ ts, ∀ a ∈ downP wd k e ts, a.2.length ≤ maxLen
  | [], a, h => by
    rw [downP, List.mem_singleton] at h
    rw [h]; unfold maxLen; omega
  | t :: ts, a, h => by
    rw [downP, List.mem_cons] at h
    rcases h with rfl | h
    · rw [forkS_len]; simp [maxLen]
    · exact downP_lens wd k e he ts a h
theorem climbL_lens (wd : Int) (k : Key) (x : ProofD) : ∀ a ∈ climbL wd k x, a.2.length ≤ maxLen := fun a ha => by
  unfold climbL at ha
  split at ha
  · rcases List.mem_cons.1 ha with rfl | ha
    · simp [wholeI, maxLen]
    · exact downP_lens wd k _ (by simp [endI]) _ a ha
  · rw [List.mem_singleton] at ha
    rw [ha]
    simp [noneI]
set_option maxRecDepth 100000 in
set_option maxHeartbeats 4000000 in
theorem rclashP_any (wd R : Int) (K : Key) (x y : ProofD) (B : Nat) (w : World) (hx : x.held w B) (hy : y.held w B) (hB : B ≤ w.heap.size) (hl : proofM x ≤ 10000000) (hl' : proofM y ≤ 10000000) :
    Calls Try.prog 49 #[.int .i64 wd, .int .u64 R, .string (bs K), x.val, y.val] w (ClashAns w w.heap.size (clashP wd R K x y)) := by
  have HC : Hid (clashP wd R K x y = if checkE wd R K x ≠ 0 ∨ checkE wd R K y ≠ 0 ∨ checkV wd R K x = checkV wd R K y then none else unl (climbL wd K x) (climbL wd K y)) := rfl
  have HX := Lib.hid (fun h1 h2 h3 => clash_exP wd R K x y h1 h2 h3)
  generalize clashP wd R K x y = o at *
  have hch := fun W g1 g2 => rcheck_any wd R K x B W g1 g2 hl
  have hch' := fun W g1 g2 => rcheck_any wd R K y B W g1 g2 hl'
  have hcl := fun W g1 g2 => rclimb_any wd K x B W g1 g2 hl
  have hcl' := fun W g1 g2 => rclimb_any wd K y B W g1 g2 hl'
  have hc1 : checkE wd R K x = 0 → climbE K x = 0 := fun h => (checkE_zero h).1
  have hc2 : checkE wd R K y = 0 → climbE K y = 0 := fun h => (checkE_zero h).1
  have hz1 : ∀ a ∈ (climbL wd K x).reverse, a.2.length ≤ maxLen := fun a ha => climbL_lens wd K x a (List.mem_reverse.1 ha)
  have hz2 : ∀ a ∈ (climbL wd K y).reverse, a.2.length ≤ maxLen := fun a ha => climbL_lens wd K y a (List.mem_reverse.1 ha)
  have hn1 : (climbL wd K x).reverse.length ≤ 1000000002 := by
    have h1 := climbL_len wd K x
    have h2 := turns_M x.turns
    unfold proofM at hl
    rw [List.length_reverse]; omega
  have hn2 : (climbL wd K y).reverse.length ≤ 1000000002 := by
    have h1 := climbL_len wd K y
    have h2 := turns_M y.turns
    unfold proofM at hl'
    rw [List.length_reverse]; omega
  have hr1 : climbL wd K x = (climbL wd K x).reverse.reverse := (List.reverse_reverse _).symm
  have hr2 : climbL wd K y = (climbL wd K y).reverse.reverse := (List.reverse_reverse _).symm
  rw [hr1, hr2] at HC HX
  clear hr1 hr2
  generalize (climbL wd K x).reverse = l at *
  generalize (climbL wd K y).reverse = m at *
  generalize climbE K x = C1 at *
  generalize climbE K y = C2 at *
  generalize checkE wd R K x = E1 at *
  generalize checkE wd R K y = E2 at *
  generalize checkV wd R K x = V1 at *
  generalize checkV wd R K y = V2 at *
  obtain ⟨ts, ta, tc, lf, a, vv⟩ := x
  obtain ⟨us, ua, uc, lg, b, vw⟩ := y
  dsimp only [ProofD.val] at *
  obtain ⟨W, hW, hWs, hWb, hP, hQ, hR0, hR1⟩ := four_blks w 70 70 106 106 #[.slice ta ts.length tc, .bool lf, .string (bs a), .string (bs vv)] #[.slice ua us.length uc, .bool lg, .string (bs b), .string (bs vw)] #[.int .i64 0, .slice none 0 0] #[.int .i64 0, .slice none 0 0]
  have HW := Lib.hid hW
  have hWl : w.heap.size + 4 ≤ W.heap.size := by omega
  clear hW hWs
  go_enter Try.func49, Try.ntmps49
  go_upto_region 1 with fail
  rw [HW.out]
  clear HW
  have hxW := hx.below (hWb.mono hB)
  have hyW := hy.below (hWb.mono hB)
  have hBW : B ≤ W.heap.size := by omega
  have p0 := (hP.cell 0).trans (show _ = some (Value.slice ta ts.length tc) from rfl)
  have p1 := (hP.cell 1).trans (show _ = some (Value.bool lf) from rfl)
  have p2 := (hP.cell 2).trans (show _ = some (Value.string (bs a)) from rfl)
  have p3 := (hP.cell 3).trans (show _ = some (Value.string (bs vv)) from rfl)
  go_wp2_with fail
  refine (hch W hxW hBW).mono ?_
  rintro e w1 ⟨rfl, hb1⟩
  have hQ1 := hQ.below hb1 hQ.lt
  have q0 := (hQ1.cell 0).trans (show _ = some (Value.slice ua us.length uc) from rfl)
  have q1 := (hQ1.cell 1).trans (show _ = some (Value.bool lg) from rfl)
  have q2 := (hQ1.cell 2).trans (show _ = some (Value.string (bs b)) from rfl)
  have q3 := (hQ1.cell 3).trans (show _ = some (Value.string (bs vw)) from rfl)
  have hb1s := hb1.size
  go_wp2_with fail
  refine (hch' w1 (hyW.below (hb1.mono hBW)) (by omega)).mono ?_
  rintro e w2 ⟨rfl, hb2⟩
  have hb12 := hb1.trans (hb2.mono hb1s)
  have hP2 := hP.below hb12 hP.lt
  have hQ2 := hQ.below hb12 hQ.lt
  have hR02 := hR0.below hb12 hR0.lt
  have hR12 := hR1.below hb12 hR1.lt
  have hbel2 := hWb.trans (hb12.mono (by omega))
  have hx2 := hxW.below (hb12.mono hBW)
  have hy2 := hyW.below (hb12.mono hBW)
  have hw2 : w.heap.size + 4 ≤ w2.heap.size := by have := hb12.size; omega
  clear p0 p1 p2 p3 q0 q1 q2 q3 hQ1 hP hQ hR0 hR1 hxW hyW hb12 hb1 hb2 hch hch' hWb hBW hWl hb1s hx hy
  by_cases h1 : E1 = 0
  case neg =>
    as_aux_lemma =>
    have HO : Hid (o = none) := by show _ = _; rw [HC.out, if_pos (.inl h1)]
    have d1 : (E1 != 0) = true := by simpa using h1
    clear HC HX hc1 hc2 hcl hcl' h1 hx2 hy2
    go_upto_region 4 with fail
    have z0 := (hR02.cell 0).trans (show _ = some (Value.int .i64 0) from rfl)
    have z1 := (hR02.cell 1).trans (show _ = some (Value.slice none 0 0) from rfl)
    have y0 := (hR12.cell 0).trans (show _ = some (Value.int .i64 0) from rfl)
    have y1 := (hR12.cell 1).trans (show _ = some (Value.slice none 0 0) from rfl)
    have f0 := hR02.frozen 0
    have f1 := hR02.frozen 1
    have g0 := hR12.frozen 0
    have g1 := hR12.frozen 1
    have hs0 := (((hR02.set_ 0 (.int .i64 0)).set_ 1 (.slice none 0 0)).far (p := ⟨w.heap.size + 3, 0, none⟩) (by simp) (.int .i64 0) |>.far (p := ⟨w.heap.size + 3, 1, none⟩) (by simp) (.slice none 0 0))
    have hs1 := ((((hR12.far (p := ⟨w.heap.size + 2, 0, none⟩) (by simp) (.int .i64 0)).far (p := ⟨w.heap.size + 2, 1, none⟩) (by simp) (.slice none 0 0)).set_ 0 (.int .i64 0)).set_ 1 (.slice none 0 0))
    have v0 := (hs0.cell 0).trans (show _ = some (Value.int .i64 0) from rfl)
    have v1 := (hs0.cell 1).trans (show _ = some (Value.slice none 0 0) from rfl)
    have v2 := (hs1.cell 0).trans (show _ = some (Value.int .i64 0) from rfl)
    have v3 := (hs1.cell 1).trans (show _ = some (Value.slice none 0 0) from rfl)
    have hfin := ((((hbel2.setCell (p := ⟨w.heap.size + 2, 0, none⟩) (by simp) (.int .i64 0)).setCell (p := ⟨w.heap.size + 2, 1, none⟩) (by simp) (.slice none 0 0)).setCell (p := ⟨w.heap.size + 3, 0, none⟩) (by simp) (.int .i64 0)).setCell (p := ⟨w.heap.size + 3, 1, none⟩) (by simp) (.slice none 0 0))
    go_wp2_with fail
    refine bodyPost_ret (v := .tuple #[.agg #[.int .i64 0, .slice none 0 0], .agg #[.int .i64 0, .slice none 0 0], .bool false]) (by simp [results, Try.results49, go_sem, v0, v1, v2, v3]) rfl ⟨hfin, .inl ⟨HO.out, rfl⟩⟩
  subst h1
  by_cases h2 : E2 = 0
  case neg =>
    as_aux_lemma =>
    have HO : Hid (o = none) := by show _ = _; rw [HC.out, if_pos (.inr (.inl h2))]
    have d1 : (E2 != 0) = true := by simpa using h2
    clear HC HX hc1 hc2 hcl hcl' h2 hx2 hy2
    go_upto_region 4 with fail
    have z0 := (hR02.cell 0).trans (show _ = some (Value.int .i64 0) from rfl)
    have z1 := (hR02.cell 1).trans (show _ = some (Value.slice none 0 0) from rfl)
    have y0 := (hR12.cell 0).trans (show _ = some (Value.int .i64 0) from rfl)
    have y1 := (hR12.cell 1).trans (show _ = some (Value.slice none 0 0) from rfl)
    have f0 := hR02.frozen 0
    have f1 := hR02.frozen 1
    have g0 := hR12.frozen 0
    have g1 := hR12.frozen 1
    have hs0 := (((hR02.set_ 0 (.int .i64 0)).set_ 1 (.slice none 0 0)).far (p := ⟨w.heap.size + 3, 0, none⟩) (by simp) (.int .i64 0) |>.far (p := ⟨w.heap.size + 3, 1, none⟩) (by simp) (.slice none 0 0))
    have hs1 := ((((hR12.far (p := ⟨w.heap.size + 2, 0, none⟩) (by simp) (.int .i64 0)).far (p := ⟨w.heap.size + 2, 1, none⟩) (by simp) (.slice none 0 0)).set_ 0 (.int .i64 0)).set_ 1 (.slice none 0 0))
    have v0 := (hs0.cell 0).trans (show _ = some (Value.int .i64 0) from rfl)
    have v1 := (hs0.cell 1).trans (show _ = some (Value.slice none 0 0) from rfl)
    have v2 := (hs1.cell 0).trans (show _ = some (Value.int .i64 0) from rfl)
    have v3 := (hs1.cell 1).trans (show _ = some (Value.slice none 0 0) from rfl)
    have hfin := ((((hbel2.setCell (p := ⟨w.heap.size + 2, 0, none⟩) (by simp) (.int .i64 0)).setCell (p := ⟨w.heap.size + 2, 1, none⟩) (by simp) (.slice none 0 0)).setCell (p := ⟨w.heap.size + 3, 0, none⟩) (by simp) (.int .i64 0)).setCell (p := ⟨w.heap.size + 3, 1, none⟩) (by simp) (.slice none 0 0))
    go_wp2_with fail
    refine bodyPost_ret (v := .tuple #[.agg #[.int .i64 0, .slice none 0 0], .agg #[.int .i64 0, .slice none 0 0], .bool false]) (by simp [results, Try.results49, go_sem, v0, v1, v2, v3]) rfl ⟨hfin, .inl ⟨HO.out, rfl⟩⟩
  subst h2
  by_cases h3 : V1 = V2
  case pos =>
    as_aux_lemma =>
    have HO : Hid (o = none) := by show _ = _; rw [HC.out, if_pos (.inr (.inr h3))]
    subst h3
    clear HC HX hc1 hc2 hcl hcl' hx2 hy2
    go_upto_region 4 with fail
    have z0 := (hR02.cell 0).trans (show _ = some (Value.int .i64 0) from rfl)
    have z1 := (hR02.cell 1).trans (show _ = some (Value.slice none 0 0) from rfl)
    have y0 := (hR12.cell 0).trans (show _ = some (Value.int .i64 0) from rfl)
    have y1 := (hR12.cell 1).trans (show _ = some (Value.slice none 0 0) from rfl)
    have f0 := hR02.frozen 0
    have f1 := hR02.frozen 1
    have g0 := hR12.frozen 0
    have g1 := hR12.frozen 1
    have hs0 := (((hR02.set_ 0 (.int .i64 0)).set_ 1 (.slice none 0 0)).far (p := ⟨w.heap.size + 3, 0, none⟩) (by simp) (.int .i64 0) |>.far (p := ⟨w.heap.size + 3, 1, none⟩) (by simp) (.slice none 0 0))
    have hs1 := ((((hR12.far (p := ⟨w.heap.size + 2, 0, none⟩) (by simp) (.int .i64 0)).far (p := ⟨w.heap.size + 2, 1, none⟩) (by simp) (.slice none 0 0)).set_ 0 (.int .i64 0)).set_ 1 (.slice none 0 0))
    have v0 := (hs0.cell 0).trans (show _ = some (Value.int .i64 0) from rfl)
    have v1 := (hs0.cell 1).trans (show _ = some (Value.slice none 0 0) from rfl)
    have v2 := (hs1.cell 0).trans (show _ = some (Value.int .i64 0) from rfl)
    have v3 := (hs1.cell 1).trans (show _ = some (Value.slice none 0 0) from rfl)
    have hfin := ((((hbel2.setCell (p := ⟨w.heap.size + 2, 0, none⟩) (by simp) (.int .i64 0)).setCell (p := ⟨w.heap.size + 2, 1, none⟩) (by simp) (.slice none 0 0)).setCell (p := ⟨w.heap.size + 3, 0, none⟩) (by simp) (.int .i64 0)).setCell (p := ⟨w.heap.size + 3, 1, none⟩) (by simp) (.slice none 0 0))
    go_wp2_with fail
    refine bodyPost_ret (v := .tuple #[.agg #[.int .i64 0, .slice none 0 0], .agg #[.int .i64 0, .slice none 0 0], .bool false]) (by simp [results, Try.results49, go_sem, v0, v1, v2, v3]) rfl ⟨hfin, .inl ⟨HO.out, rfl⟩⟩
  have HO : Hid (o = unl l.reverse m.reverse) := by show _ = _; rw [HC.out, if_neg (by simp [h3])]
  have HN : Hid (∃ x y, o = some (x, y)) := by
    obtain ⟨x, y, e, _⟩ := HX.out rfl rfl h3
    exact ⟨x, y, HO.out.trans e⟩
  obtain rfl := hc1 rfl
  obtain rfl := hc2 rfl
  have d3 : (V1 == V2) = false := beq_eq_false_iff_ne.2 h3
  have h3' : ¬ bs V1 = bs V2 := fun e => h3 (bs_inj e)
  clear HC HX hc1 hc2
  have p0 := (hP2.cell 0).trans (show _ = some (Value.slice ta ts.length tc) from rfl)
  have p1 := (hP2.cell 1).trans (show _ = some (Value.bool lf) from rfl)
  have p2 := (hP2.cell 2).trans (show _ = some (Value.string (bs a)) from rfl)
  have p3 := (hP2.cell 3).trans (show _ = some (Value.string (bs vv)) from rfl)
  go_wp2_with fail
  refine (hcl _ hx2 (by omega)).mono ?_
  rintro e w3 ⟨hb3, ⟨hne, _⟩ | ⟨_, v3, xs3, rfl, hown3, himg3⟩⟩
  · exact absurd rfl hne
  obtain ⟨A3, c3, rfl⟩ := own_shape hown3
  have hi3 := ImgR.of hown3 himg3
  have hb3s := hb3.size
  have hQ3 := hQ2.below hb3 hQ2.lt
  have q0 := (hQ3.cell 0).trans (show _ = some (Value.slice ua us.length uc) from rfl)
  have q1 := (hQ3.cell 1).trans (show _ = some (Value.bool lg) from rfl)
  have q2 := (hQ3.cell 2).trans (show _ = some (Value.string (bs b)) from rfl)
  have q3 := (hQ3.cell 3).trans (show _ = some (Value.string (bs vw)) from rfl)
  clear hown3 himg3
  go_wp2_with fail
  refine (hcl' w3 (hy2.below (hb3.mono (by omega))) (by omega)).mono ?_
  rintro e w4 ⟨hb4, ⟨hne, _⟩ | ⟨_, v4, xs4, rfl, hown4, himg4⟩⟩
  · exact absurd rfl hne
  obtain ⟨A4, c4, rfl⟩ := own_shape hown4
  have hi4 := ImgR.of hown4 himg4
  have hb4s := hb4.size
  have hb34 := hb3.trans (hb4.mono hb3s)
  have hR04 := hR02.below hb34 hR02.lt
  have hR14 := hR12.below hb34 hR12.lt
  have hbel4 := hbel2.trans (hb34.mono (by omega))
  have hi34 := ImgR.more (hi3.below hb4) hb4s (Nat.le_refl w2.heap.size)
  have hi44 := ImgR.more hi4 (Nat.le_refl _) hb3s
  have hw4 : w2.heap.size ≤ w4.heap.size := by omega
  clear p0 p1 p2 p3 q0 q1 q2 q3 hQ3 hR02 hR12 hbel2 hi3 hi4 hcl hcl' hb3 hb4 hb34 hx2 hy2 hP2 hQ2 hown4 himg4 hb3s hb4s
  have HUN := runlike_any l m A3 A4 c3 c4 w2.heap.size w4.heap.size w4 hi34 hi44 (Nat.le_refl _) (by omega) (by omega) hz1 hz2
  rw [← HO.out] at HUN
  go_wp2_with fail
  refine HUN.mono ?_
  rintro e w5 ⟨hb5, hres⟩
  clear HUN HO hi34 hi44
  have hR05 := hR04.below hb5 hR04.lt
  have hR15 := hR14.below hb5 hR14.lt
  have hbel5 := hbel4.trans (hb5.mono (by omega))
  have f0 := hR05.frozen 0
  have f1 := hR05.frozen 1
  have g0 := hR15.frozen 0
  have g1 := hR15.frozen 1
  have z0 := (hR05.cell 0).trans (show _ = some (Value.int .i64 0) from rfl)
  have z1 := (hR05.cell 1).trans (show _ = some (Value.slice none 0 0) from rfl)
  have y0 := (hR15.cell 0).trans (show _ = some (Value.int .i64 0) from rfl)
  have y1 := (hR15.cell 1).trans (show _ = some (Value.slice none 0 0) from rfl)
  rcases hres with ⟨rfl, _⟩ | ⟨x, y, Ax, cx, Ay, cy, rfl, rfl, hsx, hsy, hfx, hfy⟩
  · obtain ⟨x, y, e⟩ := HN.out
    cases e
  · have hs0 := (((hR05.set_ 0 (.int .i64 x.1)).set_ 1 (.slice Ax x.2.length cx)).far (p := ⟨w.heap.size + 3, 0, none⟩) (by simp) (.int .i64 y.1) |>.far (p := ⟨w.heap.size + 3, 1, none⟩) (by simp) (.slice Ay y.2.length cy))
    have hs1 := ((((hR15.far (p := ⟨w.heap.size + 2, 0, none⟩) (by simp) (.int .i64 x.1)).far (p := ⟨w.heap.size + 2, 1, none⟩) (by simp) (.slice Ax x.2.length cx)).set_ 0 (.int .i64 y.1)).set_ 1 (.slice Ay y.2.length cy))
    have v0 := (hs0.cell 0).trans (show _ = some (Value.int .i64 x.1) from rfl)
    have v1 := (hs0.cell 1).trans (show _ = some (Value.slice Ax x.2.length cx) from rfl)
    have v2 := (hs1.cell 0).trans (show _ = some (Value.int .i64 y.1) from rfl)
    have v3 := (hs1.cell 1).trans (show _ = some (Value.slice Ay y.2.length cy) from rfl)
    have hfin := (((hbel5.setCell (p := ⟨w.heap.size + 2, 0, none⟩) (by simp) (.int .i64 x.1)).setCell (p := ⟨w.heap.size + 2, 1, none⟩) (by simp) (.slice Ax x.2.length cx)).setCell (p := ⟨w.heap.size + 3, 0, none⟩) (by simp) (.int .i64 y.1)).setCell (p := ⟨w.heap.size + 3, 1, none⟩) (by simp) (.slice Ay y.2.length cy)
    go_wp2_with fail
    refine bodyPost_ret (v := .tuple #[.agg #[.int .i64 x.1, .slice Ax x.2.length cx], .agg #[.int .i64 y.1, .slice Ay y.2.length cy], .bool true]) (by simp [results, Try.results49, go_sem, v0, v1, v2, v3]) rfl ⟨hfin, .inr ⟨x, y, Ax, cx, Ay, cy, rfl, rfl, ?_, ?_, fun b off e => by have := hfx b off e; omega, fun b off e => by have := hfy b off e; omega⟩⟩
    · exact Rd.more (Rd.setCellF (Rd.setCellF (Rd.setCellF (Rd.setCellF hsx hfx (by show _ + 2 < _; omega) _) hfx (by show _ + 2 < _; omega) _) hfx (by show _ + 3 < _; omega) _) hfx (by show _ + 3 < _; omega) _) (by simp [World.setCell])
    · exact Rd.more (Rd.setCellF (Rd.setCellF (Rd.setCellF (Rd.setCellF hsy hfy (by show _ + 2 < _; omega) _) hfy (by show _ + 2 < _; omega) _) hfy (by show _ + 3 < _; omega) _) hfy (by show _ + 3 < _; omega) _) (by simp [World.setCell])
end Go.Proofs.Ytjjkdmngmopjbaa

namespace Go.Proofs.Ytjjkdmngmopjbaa
open Go.RowKit Go.Shelf
/-- a turn that stands there -/
abbrev BkT (ts : List TurnD) := { x : Nat × TurnD // ts[x.1]? = some x.2 }
def encB {ts : List TurnD} (x : BkT ts) : Array Value := #[.int .i64 (x.1.1 : Int), .agg #[.int .i64 x.1.2.p, .int .u64 x.1.2.d]]
def trnOf {ts : List TurnD} (l : List (BkT ts)) : List TurnD := l.map fun x => x.1.2
/-- what a round keeps -/
def KeepS (n₀ Bs : Nat) (sv : Value) (W W' : World) : Prop := Below n₀ W W' ∧ (Blk W Bs 68 #[sv] → Blk W' Bs 68 #[sv])
theorem KeepS.refl (n₀ Bs : Nat) (sv : Value) (W : World) : KeepS n₀ Bs sv W W := ⟨Below.refl _ _, fun h => h⟩
theorem KeepS.trans {n₀ Bs : Nat} {sv : Value} {A B C : World} (h : KeepS n₀ Bs sv A B) (k : KeepS n₀ Bs sv B C) : KeepS n₀ Bs sv A C := ⟨h.1.trans k.1, fun x => k.2 (h.2 x)⟩
theorem KeepS.putObj {n₀ Bs l : Nat} {sv : Value} {W : World} {o o' : Obj} (hl : n₀ ≤ l) (h : W.heap[l]? = some o) (hc : o.isCells = false) : KeepS n₀ Bs sv W (W.putObj l o') :=
  ⟨(Below.refl n₀ W).grown (grownBy_putObj' W l o') (by have := (Array.getElem?_eq_some_iff.1 h).1; omega) (fun k hk => by cases hk; exact hl), fun h3 => by
    have hne : Bs ≠ l := fun e => by
      subst e
      unfold Blk at h3
      rw [h3] at h
      cases h
      cases hc
    exact h3.grown (grownBy_putObj' W l o') (fun e => hne (by cases e; rfl))⟩
set_option maxRecDepth 100000 in
set_option maxHeartbeats 2000000 in
theorem back1_in (n l Bs n₀ B c : Nat) (ts : List TurnD) (A : Option Addr) (J Jx : List TurnD → World → Prop) (hn : 1 ≤ n) (hlen : ts.length ≤ 1000000000) (hBn : B ≤ n₀)
    (hY : ∀ pre (k : Nat) t W1, ts[k]? = some t → J pre W1 → pre.length < ts.length → YieldAt Fence.wide (n - 1) Try.prog l #[.int .i64 (k : Int), .agg #[.int .i64 t.p, .int .u64 t.d]] W1 fun e W' =>
      (e = .returned (.bool true) ∧ J (pre ++ [t]) W' ∧ KeepS n₀ Bs (.slice A ts.length c) W1 W') ∨ (e = .returned (.bool false) ∧ Jx (pre ++ [t]) W'))
    (W : World) (hBs : Blk W Bs 68 #[.slice A ts.length c]) (hr : TurnsL W B A ts) (h0 : J [] W) :
    CallsIn Fence.wide n Try.prog 162 #[.func (.yield l) #[] #[], .pointer (some ⟨Bs, 0, none⟩)] W fun e W' => (∃ v, e = .returned v) ∧ (J ts.reverse W' ∨ ∃ p, p <+: ts.reverse ∧ Jx p W') := by
  have hw1 : ∀ f, Fence.wide.fn f := fun _ => trivial
  have hw2 : Fence.wide.depth.isSome = false := rfl
  have cs := (hBs.cell 0).trans (show _ = some (Value.slice A ts.length c) from rfl)
  have hn1 : IntKind.i64.wrap ((ts.length : Int) - 1) = (ts.length : Int) - 1 := IntWalk.i64_in _ (by omega)
  refine callsIn_of_wp Try.func162 rfl trivial ?_ rfl
  simp only [Try.ntmps162, List.size_toArray, List.length_cons, List.length_nil, Nat.reduceAdd, Nat.reduceSub, Array.replicate_succ, Array.replicate_zero, List.push_toArray, List.append_toArray, List.nil_append, List.cons_append]
  gi_wp2
  gi_loopw [3] (fun i wr => ∃ (j : Nat) (q : Int), i = .int .i64 q ∧ q = (j : Int) - 1 ∧ j ≤ ts.length ∧ J (ts.drop j).reverse wr ∧ KeepS n₀ Bs (.slice A ts.length c) W wr) (fun i _ => (intOf i + 1).toNat)
  case atStart => exact ⟨ts.length, (ts.length : Int) - 1, by go_num, rfl, Nat.le_refl _, by rw [List.drop_length]; exact h0, KeepS.refl _ _ _ _⟩
  case round =>
    obtain ⟨j, q, rfl, hq, hj, hJs, hkp⟩ := hrel
    have cs2 := ((hkp.2 hBs).cell 0).trans (show _ = some (Value.slice A ts.length c) from rfl)
    by_cases hj0 : 0 < j
    · obtain ⟨k, rfl⟩ : ∃ k, j = k + 1 := ⟨j - 1, by omega⟩
      have hq2 : q = (k : Int) := by omega
      clear hq
      subst hq2
      have hk : k < ts.length := by omega
      have hki : (k : Int) < (ts.length : Int) := by omega
      have hk0 : (0 : Int) ≤ (k : Int) := by omega
      obtain ⟨bt, ot, rfl, hbt, kt0, kt1⟩ := turns_at (hr.below (hkp.1.mono hBn)) hk
      have hdr := Lib.hid (List.drop_eq_getElem_cons hk)
      have hg : ts[k]? = some ts[k] := List.getElem?_eq_getElem hk
      have hYk := hY (ts.drop (k + 1)).reverse k ts[k] wr hg hJs (by rw [List.length_reverse, List.length_drop]; omega)
      clear hg
      generalize ts[k] = t at *
      obtain ⟨fn, tmps, assign, body, hy, hR⟩ := hYk
      clear hY
      gi_wp2
      refine hR.mono ?_
      rintro e W3 (⟨rfl, hJ3, hk3⟩ | ⟨rfl, hJx3⟩)
      · gi_wp2
        go_roundw
        case rel => exact ⟨k, (k : Int) - 1, by go_num, rfl, by omega, by rw [hdr.out, List.reverse_cons]; exact hJ3, hkp.trans hk3⟩
        case measure => first | (simp [intOf]; done) | (simp [intOf]; omega)
      · gi_wp2
        refine bodyPost_ret (results_none rfl _ _ _) rfl ?_
        refine ⟨⟨_, rfl⟩, .inr ⟨_, ?_, hJx3⟩⟩
        rw [← List.reverse_cons, ← hdr.out]
        exact ⟨(ts.take k).reverse, by rw [← List.reverse_append, List.take_append_drop]⟩
    · have hj1 : j = 0 := by omega
      subst hj1
      have hq2 : q = -1 := by omega
      clear hq
      subst hq2
      have hneg : ¬ (0 : Int) ≤ -1 := by decide
      clear hY
      gi_wp2
      go_end0
      exact ⟨⟨_, rfl⟩, .inl (by simpa using hJs)⟩
theorem back_stops (n Bs n₀ B c : Nat) (ts : List TurnD) (A : Option Addr) (w : World) (hn : 1 ≤ n) (hlen : ts.length ≤ 1000000000) (hBn : B ≤ n₀) (hn₀ : n₀ ≤ w.heap.size)
    (hBs : Blk w Bs 68 #[.slice A ts.length c]) (hr : TurnsL w B A ts) :
    SeqStopsK Fence.wide n Try.prog 162 #[.pointer (some ⟨Bs, 0, none⟩)] (encB (ts := ts)) (KeepS n₀ Bs (.slice A ts.length c)) (fun xs => trnOf xs = ts.reverse) (fun pre => trnOf pre <+: ts.reverse) ts.length w := by
  intro l J Jx W hW hJ hJx hY h0
  refine (back1_in n l Bs n₀ B c ts A (fun es W1 => ∃ pre : List (BkT ts), trnOf pre = es ∧ J pre W1) (fun es W1 => ∃ pre : List (BkT ts), trnOf pre = es ∧ Jx pre W1) hn hlen hBn ?_ W (hBs.below hW hBs.lt) (hr.below (hW.mono (by omega))) ⟨[], rfl, h0⟩).mono ?_
  · rintro es k t W1 hk ⟨pre, rfl, hj⟩ hlt
    refine YieldAt.mono (hY pre ⟨(k, t), hk⟩ W1 hj (by simpa [trnOf] using hlt)) fun e W' h => ?_
    rcases h with ⟨he, h1, h2⟩ | ⟨he, h1⟩
    · exact .inl ⟨he, ⟨_, by simp [trnOf], h1⟩, h2⟩
    · exact .inr ⟨he, ⟨_, by simp [trnOf], h1⟩⟩
  · rintro e W' ⟨hv, ⟨pre, he, hj⟩ | ⟨p, hp, pre, he, hx⟩⟩
    · exact ⟨hv, .inl ⟨pre, he, hj⟩⟩
    · exact ⟨hv, .inr ⟨pre, by show trnOf pre <+: _; rw [he]; exact hp, hx⟩⟩
set_option maxRecDepth 100000 in
theorem back_any (A : Option Addr) (n c : Nat) (w : World) :
    Calls Try.prog 133 #[.slice A n c] w fun e w' => e = .returned (.func (.func 162) #[] #[.pointer (some ⟨w.heap.size, 0, none⟩)]) ∧ w' = w.alloc (.cells #[.slice A n c] 68) := by
  have hmf : ∀ (fn : Fn) (first cap : Array Value) (w : World), (Instr.makeFunc fn first cap).run Try.prog w = .ok (.func fn first cap) w := fun _ _ _ _ => rfl
  go_enter Try.func133, Try.ntmps133
  go_wp2_with fail
  go_ret
  exact ⟨rfl, rfl⟩
end Go.Proofs.Ytjjkdmngmopjbaa

namespace Go.Proofs.Ytjjkdmngmopjbaa
open Go.RowKit Go.Shelf
theorem five_blks (w : World) (t0 t1 t2 t3 t4 : TypeId) (c0 c1 c2 c3 c4 : Array Value) : ∃ W, (((((w.alloc (.cells c0 t0)).alloc (.cells c1 t1)).alloc (.cells c2 t2)).alloc (.cells c3 t3)).alloc (.cells c4 t4)) = W ∧ W.heap.size = w.heap.size + 5 ∧ Below w.heap.size w W ∧ Blk W w.heap.size t0 c0 ∧ Blk W (w.heap.size + 1) t1 c1 ∧ Blk W (w.heap.size + 2) t2 c2 ∧ Blk W (w.heap.size + 3) t3 c3 ∧ Blk W (w.heap.size + 4) t4 c4 := by
  obtain ⟨W, h0, h1, h2, h3, h4, h5, h6⟩ := four_blks w t0 t1 t2 t3 c0 c1 c2 c3
  refine ⟨_, rfl, ?_, ?_, ?_, ?_, ?_, ?_, ?_⟩
  · rw [h0]; simp [h1]
  · rw [h0]; exact h2.alloc h2.size _
  · rw [h0]; exact h3.alloc _
  · rw [h0]; exact h4.alloc _
  · rw [h0]; exact h5.alloc _
  · rw [h0]; exact h6.alloc _
  · rw [h0, ← h1]; exact Blk.new _ _ _
theorem Imgs.setLow {base : Nat} {w : World} {row : Option Nat} {p : Addr} (hp : p.block < base) (u : Value) : ∀ {xs : List Value} {l : List ImgP}, Imgs base w row xs l → Imgs base (w.setCell p u) row xs l
  | [], [], h => h
  | [], _ :: _, h => h
  | [_], [], h => h
  | [_], _ :: _, h => h
  | _ :: _ :: _, [], h => h
  | x :: y :: xs, i :: l, h => by
    obtain ⟨h1, ⟨A, c', h2, h3, h4, h5⟩, h6⟩ := h
    exact ⟨h1, ⟨A, c', h2, Rd.more (Rd.setCellF h3 h4 hp u) (by simp [World.setCell]), h4, h5⟩, Imgs.setLow hp u h6⟩
set_option maxRecDepth 100000 in
set_option maxHeartbeats 2000000 in
theorem images_long (wd : Int) (k : Key) (x : ProofD) (w : World) (h : 32 < k.length) :
    Calls Try.prog 85 #[.int .i64 wd, .string (bs k), x.val] w (RowAns w (climbE k x) (climbL wd k x).reverse) := by
  have hE : Hid (climbE k x = 3) := by show _ = _; unfold climbE; rw [if_pos h]
  generalize climbE k x = E at *
  have hi : decide ((32 : Int) < (k.length : Int)) = true := decide_eq_true (by omega)
  obtain ⟨ts, ta, tc, lf, a, vv⟩ := x
  dsimp only [ProofD.val]
  obtain ⟨W, hW, hWs, hWb, b3, b4, b5, b6, b7⟩ := five_blks w 3 9 70 158 44 #[.int .i64 wd] #[.string (bs k)] #[.slice ta ts.length tc, .bool lf, .string (bs a), .string (bs vv)] #[.slice none 0 0] #[.int .i64 0]
  have HW := Lib.hid hW
  clear hW hWs
  refine (callsIn_wide (n := 9)).1 ?_
  refine callsIn_of_wp_marks Try.func85 rfl trivial ?_ rfl
  simp only [Try.ntmps85, List.size_toArray, List.length_cons, List.length_nil, Nat.reduceAdd, Nat.reduceSub, Array.replicate_succ, Array.replicate_zero, List.push_toArray, List.append_toArray, List.nil_append, List.cons_append]
  refine wpIn_wide.2 ?_
  go_upto_region 1 with fail
  rw [HW.out]
  have k4 := (b4.cell 0).trans (show _ = some (Value.string (bs k)) from rfl)
  have k6 := (b6.cell 0).trans (show _ = some (Value.slice none 0 0) from rfl)
  have k7 := (b7.cell 0).trans (show _ = some (Value.int .i64 0) from rfl)
  have f6 := b6.frozen 0
  have f7 := b7.frozen 0
  go_wp2_with fail
  have h6 := (b6.set_ 0 (.slice none 0 0)).far (p := ⟨w.heap.size + 4, 0, none⟩) (by simp) (.int .i64 3)
  have h7 := (b7.far (p := ⟨w.heap.size + 3, 0, none⟩) (by simp) (.slice none 0 0)).set_ 0 (.int .i64 3)
  have z6 := (h6.cell 0).trans (show _ = some (Value.slice none 0 0) from rfl)
  have z7 := (h7.cell 0).trans (show _ = some (Value.int .i64 3) from rfl)
  exact ⟨.tuple #[.slice none 0 0, .int .i64 3], by simp [results, Try.results85, go_sem, z6, z7], (hWb.setCell (by dsimp only; omega) _).setCell (by dsimp only; omega) _, .inl ⟨by rw [hE.out]; decide, by rw [hE.out]⟩⟩
set_option maxRecDepth 100000 in
set_option maxHeartbeats 2000000 in
theorem images_bad (wd : Int) (k : Key) (x : ProofD) (B : Nat) (w : World) (h : k.length ≤ 32) (hx : x.held w B) (hB : B ≤ w.heap.size) (hl : proofM x ≤ 10000000) (hr : (Out.empty.proof x).re ≠ 0) :
    Calls Try.prog 85 #[.int .i64 wd, .string (bs k), x.val] w (RowAns w (climbE k x) (climbL wd k x).reverse) := by
  have hE : Hid (climbE k x = (Out.empty.proof x).re) := by show _ = _; unfold climbE; rw [if_neg (by omega), if_pos hr]
  generalize climbE k x = E at *
  have hi : decide ((32 : Int) < (k.length : Int)) = false := decide_eq_false (by omega)
  have hp := fun W g1 g2 => put_proof x B W g1 g2 hl
  generalize (Out.empty.proof x).re = R at *
  have hR : (R != 0) = true := by simpa using hr
  generalize hrow : (climbL wd k x).reverse = LL at *
  clear hrow
  have hx' := fun W (g : Below w.heap.size w W) => hx.below (g.mono hB)
  obtain ⟨ts, ta, tc, lf, a, vv⟩ := x
  dsimp only [ProofD.val] at hp ⊢
  obtain ⟨W, hW, hWs, hWb, b3, b4, b5, b6, b7⟩ := five_blks w 3 9 70 158 44 #[.int .i64 wd] #[.string (bs k)] #[.slice ta ts.length tc, .bool lf, .string (bs a), .string (bs vv)] #[.slice none 0 0] #[.int .i64 0]
  have HW := Lib.hid hW
  have hWl : w.heap.size + 5 ≤ W.heap.size := by omega
  clear hW hWs
  refine (callsIn_wide (n := 9)).1 ?_
  refine callsIn_of_wp_marks Try.func85 rfl trivial ?_ rfl
  simp only [Try.ntmps85, List.size_toArray, List.length_cons, List.length_nil, Nat.reduceAdd, Nat.reduceSub, Array.replicate_succ, Array.replicate_zero, List.push_toArray, List.append_toArray, List.nil_append, List.cons_append]
  refine wpIn_wide.2 ?_
  go_upto_region 1 with fail
  rw [HW.out]
  have k4 := (b4.cell 0).trans (show _ = some (Value.string (bs k)) from rfl)
  have k50 := (b5.cell 0).trans (show _ = some (Value.slice ta ts.length tc) from rfl)
  have k51 := (b5.cell 1).trans (show _ = some (Value.bool lf) from rfl)
  have k52 := (b5.cell 2).trans (show _ = some (Value.string (bs a)) from rfl)
  have k53 := (b5.cell 3).trans (show _ = some (Value.string (bs vv)) from rfl)
  go_wp2_with fail
  refine (hp _ (hx' _ hWb) (by omega)).mono ?_
  rintro e w1 ⟨rfl, hb1⟩
  have c6 := b6.below hb1 b6.lt
  have c7 := b7.below hb1 b7.lt
  have k6 := (c6.cell 0).trans (show _ = some (Value.slice none 0 0) from rfl)
  have k7 := (c7.cell 0).trans (show _ = some (Value.int .i64 0) from rfl)
  have f6 := c6.frozen 0
  have f7 := c7.frozen 0
  go_wp2_with fail
  have h6 := (c6.set_ 0 (.slice none 0 0)).far (p := ⟨w.heap.size + 4, 0, none⟩) (by simp) (.int .i64 R)
  have h7 := (c7.far (p := ⟨w.heap.size + 3, 0, none⟩) (by simp) (.slice none 0 0)).set_ 0 (.int .i64 R)
  have z6 := (h6.cell 0).trans (show _ = some (Value.slice none 0 0) from rfl)
  have z7 := (h7.cell 0).trans (show _ = some (Value.int .i64 R) from rfl)
  exact ⟨.tuple #[.slice none 0 0, .int .i64 R], by simp [results, Try.results85, go_sem, z6, z7], ((hWb.trans (hb1.mono hWb.size)).setCell (by dsimp only; omega) _).setCell (by dsimp only; omega) _, .inl ⟨by rw [hE.out]; exact hr, by rw [hE.out]⟩⟩
set_option maxRecDepth 100000 in
set_option maxHeartbeats 2000000 in
theorem images_none (wd : Int) (k : Key) (x : ProofD) (B : Nat) (w : World) (h : k.length ≤ 32) (hx : x.held w B) (hB : B ≤ w.heap.size) (hl : proofM x ≤ 10000000) (hr : (Out.empty.proof x).re = 0) (hf : x.leaf = false) :
    Calls Try.prog 85 #[.int .i64 wd, .string (bs k), x.val] w (RowAns w (climbE k x) (climbL wd k x).reverse) := by
  have hE : Hid (climbE k x = 0) := by show _ = _; unfold climbE; rw [if_neg (by omega), hr, if_neg (by simp), if_neg (by simp [hf])]
  have hL : Hid ((climbL wd k x).reverse = [((5 : Int), ([] : List (List UInt8)))]) := by show _ = _; unfold climbL; rw [hf]; rfl
  generalize climbE k x = E at *
  generalize (climbL wd k x).reverse = LL at *
  have hi : decide ((32 : Int) < (k.length : Int)) = false := decide_eq_false (by omega)
  have hp := fun W g1 g2 => put_proof x B W g1 g2 hl
  rw [hr] at hp
  have hx' := fun W (g : Below w.heap.size w W) => hx.below (g.mono hB)
  have hwn := fun W => wholeNo_any 0 W
  obtain ⟨ts, ta, tc, lf, a, vv⟩ := x
  dsimp only [ProofD.val] at *
  subst hf
  obtain ⟨W, hW, hWs, hWb, b3, b4, b5, b6, b7⟩ := five_blks w 3 9 70 158 44 #[.int .i64 wd] #[.string (bs k)] #[.slice ta ts.length tc, .bool false, .string (bs a), .string (bs vv)] #[.slice none 0 0] #[.int .i64 0]
  have HW := Lib.hid hW
  have hWl : w.heap.size + 5 ≤ W.heap.size := by omega
  clear hW hWs
  refine (callsIn_wide (n := 9)).1 ?_
  refine callsIn_of_wp_marks Try.func85 rfl trivial ?_ rfl
  simp only [Try.ntmps85, List.size_toArray, List.length_cons, List.length_nil, Nat.reduceAdd, Nat.reduceSub, Array.replicate_succ, Array.replicate_zero, List.push_toArray, List.append_toArray, List.nil_append, List.cons_append]
  refine wpIn_wide.2 ?_
  go_upto_region 1 with fail
  rw [HW.out]
  have k4 := (b4.cell 0).trans (show _ = some (Value.string (bs k)) from rfl)
  have k50 := (b5.cell 0).trans (show _ = some (Value.slice ta ts.length tc) from rfl)
  have k51 := (b5.cell 1).trans (show _ = some (Value.bool false) from rfl)
  have k52 := (b5.cell 2).trans (show _ = some (Value.string (bs a)) from rfl)
  have k53 := (b5.cell 3).trans (show _ = some (Value.string (bs vv)) from rfl)
  go_wp2_with fail
  refine (hp _ (hx' _ hWb) (by omega)).mono ?_
  rintro e w1 ⟨rfl, hb1⟩
  have c5 := b5.below hb1 b5.lt
  have c6 := b6.below hb1 b6.lt
  have c7 := b7.below hb1 b7.lt
  have hb01 := hWb.trans (hb1.mono hWb.size)
  have hz1 := hb1.size
  have m51 := (c5.cell 1).trans (show _ = some (Value.bool false) from rfl)
  clear k4 k50 k51 k52 k53 b3 b4 b5 b6 b7 hb1
  go_wp2_with fail
  refine (hwn _).mono ?_
  rintro e w2 ⟨y, rfl, ⟨A2, c2, rfl, hs2, hf2⟩, hb2⟩
  have d6 := c6.below hb2 c6.lt
  have d7 := c7.below hb2 c7.lt
  have hb02 := hb01.trans (hb2.mono hb01.size)
  have hz2 := hb2.size
  have hrow := row_one (tag := 5) (c := c2) (ps := []) (W := w2) (B := w1.heap.size) (B1 := w1.heap.size) (B' := w1.heap.size) hb2.size (Nat.le_refl _) hs2 hf2
  have e6 := d6.alloc (.cells #[.int .i64 5, .slice A2 0 c2] 106)
  have e7 := d7.alloc (.cells #[.int .i64 5, .slice A2 0 c2] 106)
  have k6 := (e6.cell 0).trans (show _ = some (Value.slice none 0 0) from rfl)
  have k7 := (e7.cell 0).trans (show _ = some (Value.int .i64 0) from rfl)
  have f6 := e6.frozen 0
  have f7 := e7.frozen 0
  have n6 : ¬ w.heap.size + 3 = w2.heap.size := by omega
  have n7 : ¬ w.heap.size + 4 = w2.heap.size := by omega
  go_wp2_with fail
  have h6 := (e6.set_ 0 (.slice (some ⟨w2.heap.size, 0, none⟩) 1 1)).far (p := ⟨w.heap.size + 4, 0, none⟩) (by simp) (.int .i64 0)
  have h7 := (e7.far (p := ⟨w.heap.size + 3, 0, none⟩) (by simp) (.slice (some ⟨w2.heap.size, 0, none⟩) 1 1)).set_ 0 (.int .i64 0)
  have z6 := (h6.cell 0).trans (show _ = some (Value.slice (some ⟨w2.heap.size, 0, none⟩) 1 1) from rfl)
  have z7 := (h7.cell 0).trans (show _ = some (Value.int .i64 0) from rfl)
  have hw1 : w.heap.size + 5 ≤ w1.heap.size := by omega
  exact ⟨.tuple #[.slice (some ⟨w2.heap.size, 0, none⟩) 1 1, .int .i64 0], by simp [results, Try.results85, go_sem, z6, z7], ((hb02.alloc hb02.size _).setCell (by dsimp only; omega) _).setCell (by dsimp only; omega) _, .inr ⟨hE.out, .slice (some ⟨w2.heap.size, 0, none⟩) 1 1, [.int .i64 5, .slice A2 0 c2], rfl, by rw [hL.out]; exact own_mono (own_set (own_set hrow.1 (by dsimp only; omega) _) (by dsimp only; omega) _) (by omega), by rw [hL.out]; exact (Imgs.setLow (by dsimp only; omega) _ (Imgs.setLow (by dsimp only; omega) _ hrow.2)).weak (by omega)⟩⟩
end Go.Proofs.Ytjjkdmngmopjbaa
