/- Two paths of one place: what the program's Clash tells. -/
import Derived.Test.YtjmkcndjjfokiaaProg
import Derived.Test.YtjmkcndjjfokiaaClash5
import Derived.RegionTactic
import Derived.BigRegion
import Derived.Deep.RegionHeld3
namespace Go.Proofs.Ytjmkcndjjfokiaa
open Go.RowKit
theorem unl_end {l m : List ImgP} {k : Nat} (h : k < l.length → ¬ k < m.length) : unl (l.reverse.drop k) (m.reverse.drop k) = none := by
  by_cases h1 : k < l.length
  · rw [show m.reverse.drop k = [] from List.drop_eq_nil_of_le (by simpa using h h1)]; cases (l.reverse.drop k) <;> rfl
  · rw [show l.reverse.drop k = [] from List.drop_eq_nil_of_le (by simpa using h1)]; cases (m.reverse.drop k) <;> rfl
set_option maxRecDepth 100000 in
set_option maxHeartbeats 4000000 in
theorem clash_any (wd R : Int) (s t : List UInt8) (hs : s.length ≤ maxLen) (ht : t.length ≤ maxLen) (n a n' a' : Int) (ds ds' : List Int) (A A' : Option Addr) (c c' B : Nat) (w : World) (hr : Rd w B 1 A ds.length (digs ds)) (hr' : Rd w B 1 A' ds'.length (digs ds')) (hB : B ≤ w.heap.size) (hd : ∀ d ∈ ds, 0 ≤ d ∧ d < 18446744073709551616) (hd' : ∀ d ∈ ds', 0 ≤ d ∧ d < 18446744073709551616) (hdl : ds.length ≤ 1000000000) (hdl' : ds'.length ≤ 1000000000) :
    Calls Try.prog 27 #[.int .i64 wd, .int .u64 R, .string (bs s), .agg #[.int .i64 n, .int .i64 a, .slice A ds.length c], .string (bs t), .agg #[.int .i64 n', .int .i64 a', .slice A' ds'.length c']] w (ClashAns w w.heap.size (clashS wd R s n a ds t n' a' ds')) := by
  have HC : Hid (clashS wd R s n a ds t n' a' ds' = if s = t ∨ a ≠ a' ∨ holdsS wd R s n a ds = false ∨ holdsS wd R t n' a' ds' = false then none else unl (imgsS wd s n (wayS n a) ds).reverse (imgsS wd t n' (wayS n' a') ds').reverse) := rfl
  have HX := fun h1 h2 h3 => clash_ex wd R s t n n' a ds ds' h1 h2 h3
  generalize clashS wd R s n a ds t n' a' ds' = o at *
  have hho := fun W g1 g2 => holds_any wd R s hs n a ds A c B W g1 g2 hd (by omega)
  have hho' := fun W g1 g2 => holds_any wd R t ht n' a' ds' A' c' B W g1 g2 hd' (by omega)
  have hok : holdsS wd R s n a ds = true → okP n a ds = true := fun h => by unfold holdsS at h; simp only [Bool.and_eq_true] at h; exact h.1
  have hok' : holdsS wd R t n' a' ds' = true → okP n' a' ds' = true := fun h => by unfold holdsS at h; simp only [Bool.and_eq_true] at h; exact h.1
  generalize hH1 : holdsS wd R s n a ds = H1 at *
  generalize hH2 : holdsS wd R t n' a' ds' = H2 at *
  have HH2 := Lib.hid hH2
  clear hH1 hH2
  have HXX := Lib.hid HX
  clear HX
  obtain ⟨W, hW, hWs, hWb, hP, hQ, hR0, hR1⟩ := four_blks w 37 37 45 45 #[.int .i64 n, .int .i64 a, .slice A ds.length c] #[.int .i64 n', .int .i64 a', .slice A' ds'.length c'] #[.int .i64 0, .slice none 0 0] #[.int .i64 0, .slice none 0 0]
  have HW := Lib.hid hW
  have hWl : w.heap.size + 4 ≤ W.heap.size := by omega
  clear hW hWs
  go_enter Try.func27, Try.ntmps27
  go_upto_region 1 with fail
  rw [HW.out]
  clear HW
  have hrW := Rd.below hr (hWb.mono hB)
  have hrW' := Rd.below hr' (hWb.mono hB)
  have hBW : B ≤ W.heap.size := by omega
  have p0 := (hP.cell 0).trans (show _ = some (Value.int .i64 n) from rfl)
  have p1 := (hP.cell 1).trans (show _ = some (Value.int .i64 a) from rfl)
  have p2 := (hP.cell 2).trans (show _ = some (Value.slice A ds.length c) from rfl)
  have q0 := (hQ.cell 0).trans (show _ = some (Value.int .i64 n') from rfl)
  have q1 := (hQ.cell 1).trans (show _ = some (Value.int .i64 a') from rfl)
  have q2 := (hQ.cell 2).trans (show _ = some (Value.slice A' ds'.length c') from rfl)
  by_cases haa : a = a'
  case neg =>
    have HO : o = none := by rw [HC.out, if_pos (.inr (.inl haa))]
    obtain rfl := HO
    clear HC hok hok' HXX HH2 hho hho' hrW hrW' hr hr'
    have haa' : (a != a') = true := by simpa using haa
    go_upto_region 2 with fail
    have z0 := (hR0.cell 0).trans (show _ = some (Value.int .i64 0) from rfl)
    have z1 := (hR0.cell 1).trans (show _ = some (Value.slice none 0 0) from rfl)
    have y0 := (hR1.cell 0).trans (show _ = some (Value.int .i64 0) from rfl)
    have y1 := (hR1.cell 1).trans (show _ = some (Value.slice none 0 0) from rfl)
    have f0 := hR0.frozen 0
    have f1 := hR0.frozen 1
    have g0 := hR1.frozen 0
    have g1 := hR1.frozen 1
    go_region
    all_goals
      have hs0 := (((hR0.set_ 0 (.int .i64 0)).set_ 1 (.slice none 0 0)).far (p := ⟨w.heap.size + 3, 0, none⟩) (by simp) (.int .i64 0) |>.far (p := ⟨w.heap.size + 3, 1, none⟩) (by simp) (.slice none 0 0)).drew
      have hs1 := ((((hR1.far (p := ⟨w.heap.size + 2, 0, none⟩) (by simp) (.int .i64 0)).far (p := ⟨w.heap.size + 2, 1, none⟩) (by simp) (.slice none 0 0)).set_ 0 (.int .i64 0)).set_ 1 (.slice none 0 0)).drew
      have v0 := (hs0.cell 0).trans (show _ = some (Value.int .i64 0) from rfl)
      have v1 := (hs0.cell 1).trans (show _ = some (Value.slice none 0 0) from rfl)
      have v2 := (hs1.cell 0).trans (show _ = some (Value.int .i64 0) from rfl)
      have v3 := (hs1.cell 1).trans (show _ = some (Value.slice none 0 0) from rfl)
      have hfin := ((((hWb.setCell (p := ⟨w.heap.size + 2, 0, none⟩) (by simp) (.int .i64 0)).setCell (p := ⟨w.heap.size + 2, 1, none⟩) (by simp) (.slice none 0 0)).setCell (p := ⟨w.heap.size + 3, 0, none⟩) (by simp) (.int .i64 0)).setCell (p := ⟨w.heap.size + 3, 1, none⟩) (by simp) (.slice none 0 0)).drew
      go_wp2_with fail
      refine bodyPost_ret (v := .tuple #[.agg #[.int .i64 0, .slice none 0 0], .agg #[.int .i64 0, .slice none 0 0], .bool false]) (by simp [results, Try.results27, go_sem, v0, v1, v2, v3]) rfl ⟨hfin, .inl ⟨rfl, rfl⟩⟩
  subst haa
  by_cases hst : s = t
  · have HO : o = none := by rw [HC.out, if_pos (.inl hst)]
    obtain rfl := HO
    subst hst
    clear HC hok hok' HXX HH2 hho hho' hrW hrW' hr hr'
    go_upto_region 2 with fail
    have z0 := (hR0.cell 0).trans (show _ = some (Value.int .i64 0) from rfl)
    have z1 := (hR0.cell 1).trans (show _ = some (Value.slice none 0 0) from rfl)
    have y0 := (hR1.cell 0).trans (show _ = some (Value.int .i64 0) from rfl)
    have y1 := (hR1.cell 1).trans (show _ = some (Value.slice none 0 0) from rfl)
    have f0 := hR0.frozen 0
    have f1 := hR0.frozen 1
    have g0 := hR1.frozen 0
    have g1 := hR1.frozen 1
    go_region
    all_goals
      have hs0 := (((hR0.set_ 0 (.int .i64 0)).set_ 1 (.slice none 0 0)).far (p := ⟨w.heap.size + 3, 0, none⟩) (by simp) (.int .i64 0) |>.far (p := ⟨w.heap.size + 3, 1, none⟩) (by simp) (.slice none 0 0)).drew
      have hs1 := ((((hR1.far (p := ⟨w.heap.size + 2, 0, none⟩) (by simp) (.int .i64 0)).far (p := ⟨w.heap.size + 2, 1, none⟩) (by simp) (.slice none 0 0)).set_ 0 (.int .i64 0)).set_ 1 (.slice none 0 0)).drew
      have v0 := (hs0.cell 0).trans (show _ = some (Value.int .i64 0) from rfl)
      have v1 := (hs0.cell 1).trans (show _ = some (Value.slice none 0 0) from rfl)
      have v2 := (hs1.cell 0).trans (show _ = some (Value.int .i64 0) from rfl)
      have v3 := (hs1.cell 1).trans (show _ = some (Value.slice none 0 0) from rfl)
      have hfin := ((((hWb.setCell (p := ⟨w.heap.size + 2, 0, none⟩) (by simp) (.int .i64 0)).setCell (p := ⟨w.heap.size + 2, 1, none⟩) (by simp) (.slice none 0 0)).setCell (p := ⟨w.heap.size + 3, 0, none⟩) (by simp) (.int .i64 0)).setCell (p := ⟨w.heap.size + 3, 1, none⟩) (by simp) (.slice none 0 0)).drew
      go_wp2_with fail
      refine bodyPost_ret (v := .tuple #[.agg #[.int .i64 0, .slice none 0 0], .agg #[.int .i64 0, .slice none 0 0], .bool false]) (by simp [results, Try.results27, go_sem, v0, v1, v2, v3]) rfl ⟨hfin, .inl ⟨rfl, rfl⟩⟩
  have hst' : ¬ bs s = bs t := fun e => hst (bs_inj e)
  go_wp2_with fail
  refine (hho W hrW hBW).mono ?_
  rintro e w1 ⟨rfl, hb1⟩
  have q0 := ((hQ.below hb1 hQ.lt).cell 0).trans (show _ = some (Value.int .i64 n') from rfl)
  have q1 := ((hQ.below hb1 hQ.lt).cell 1).trans (show _ = some (Value.int .i64 a) from rfl)
  have q2 := ((hQ.below hb1 hQ.lt).cell 2).trans (show _ = some (Value.slice A' ds'.length c') from rfl)
  have hb1s := hb1.size
  cases H1
  · have HO : o = none := by rw [HC.out, if_pos (.inr (.inr (.inl rfl)))]
    obtain rfl := HO
    have hR0 := hR0.below hb1 hR0.lt
    have hR1 := hR1.below hb1 hR1.lt
    have hWb := hWb.trans (hb1.mono (by omega))
    clear HC hok hok' HXX HH2 hho hho' hrW hrW' hr hr' p0 p1 p2 q0 q1 q2
    go_upto_region 2 with fail
    have z0 := (hR0.cell 0).trans (show _ = some (Value.int .i64 0) from rfl)
    have z1 := (hR0.cell 1).trans (show _ = some (Value.slice none 0 0) from rfl)
    have y0 := (hR1.cell 0).trans (show _ = some (Value.int .i64 0) from rfl)
    have y1 := (hR1.cell 1).trans (show _ = some (Value.slice none 0 0) from rfl)
    have f0 := hR0.frozen 0
    have f1 := hR0.frozen 1
    have g0 := hR1.frozen 0
    have g1 := hR1.frozen 1
    go_region
    all_goals
      have hs0 := (((hR0.set_ 0 (.int .i64 0)).set_ 1 (.slice none 0 0)).far (p := ⟨w.heap.size + 3, 0, none⟩) (by simp) (.int .i64 0) |>.far (p := ⟨w.heap.size + 3, 1, none⟩) (by simp) (.slice none 0 0)).drew
      have hs1 := ((((hR1.far (p := ⟨w.heap.size + 2, 0, none⟩) (by simp) (.int .i64 0)).far (p := ⟨w.heap.size + 2, 1, none⟩) (by simp) (.slice none 0 0)).set_ 0 (.int .i64 0)).set_ 1 (.slice none 0 0)).drew
      have v0 := (hs0.cell 0).trans (show _ = some (Value.int .i64 0) from rfl)
      have v1 := (hs0.cell 1).trans (show _ = some (Value.slice none 0 0) from rfl)
      have v2 := (hs1.cell 0).trans (show _ = some (Value.int .i64 0) from rfl)
      have v3 := (hs1.cell 1).trans (show _ = some (Value.slice none 0 0) from rfl)
      have hfin := ((((hWb.setCell (p := ⟨w.heap.size + 2, 0, none⟩) (by simp) (.int .i64 0)).setCell (p := ⟨w.heap.size + 2, 1, none⟩) (by simp) (.slice none 0 0)).setCell (p := ⟨w.heap.size + 3, 0, none⟩) (by simp) (.int .i64 0)).setCell (p := ⟨w.heap.size + 3, 1, none⟩) (by simp) (.slice none 0 0)).drew
      go_wp2_with fail
      refine bodyPost_ret (v := .tuple #[.agg #[.int .i64 0, .slice none 0 0], .agg #[.int .i64 0, .slice none 0 0], .bool false]) (by simp [results, Try.results27, go_sem, v0, v1, v2, v3]) rfl ⟨hfin, .inl ⟨rfl, rfl⟩⟩
  go_wp2_with fail
  refine (hho' w1 (Rd.below hrW' (hb1.mono hBW)) (by omega)).mono ?_
  rintro e w2 ⟨rfl, hb2⟩
  have hb12 := hb1.trans (hb2.mono hb1s)
  have hP2 := hP.below hb12 hP.lt
  have hQ2 := hQ.below hb12 hQ.lt
  have hR02 := hR0.below hb12 hR0.lt
  have hR12 := hR1.below hb12 hR1.lt
  have hbel2 := hWb.trans (hb12.mono (by omega))
  have hr2 := Rd.below hrW (hb12.mono hBW)
  have hr2' := Rd.below hrW' (hb12.mono hBW)
  have hw2 : w.heap.size + 4 ≤ w2.heap.size := by have := hb12.size; omega
  clear p0 p1 p2 q0 q1 q2 hP hQ hrW hrW' hb12 hb2 hho hho' hb1s hr hr'
  cases H2
  · have HO : o = none := by rw [HC.out, if_pos (.inr (.inr (.inr rfl)))]
    obtain rfl := HO
    clear HC hok hok' HXX HH2 hR0 hR1 hWb
    have hR0 := hR02
    have hR1 := hR12
    have hWb := hbel2
    clear hR02 hR12 hbel2
    go_upto_region 2 with fail
    have z0 := (hR0.cell 0).trans (show _ = some (Value.int .i64 0) from rfl)
    have z1 := (hR0.cell 1).trans (show _ = some (Value.slice none 0 0) from rfl)
    have y0 := (hR1.cell 0).trans (show _ = some (Value.int .i64 0) from rfl)
    have y1 := (hR1.cell 1).trans (show _ = some (Value.slice none 0 0) from rfl)
    have f0 := hR0.frozen 0
    have f1 := hR0.frozen 1
    have g0 := hR1.frozen 0
    have g1 := hR1.frozen 1
    go_region
    all_goals
      have hs0 := (((hR0.set_ 0 (.int .i64 0)).set_ 1 (.slice none 0 0)).far (p := ⟨w.heap.size + 3, 0, none⟩) (by simp) (.int .i64 0) |>.far (p := ⟨w.heap.size + 3, 1, none⟩) (by simp) (.slice none 0 0)).drew
      have hs1 := ((((hR1.far (p := ⟨w.heap.size + 2, 0, none⟩) (by simp) (.int .i64 0)).far (p := ⟨w.heap.size + 2, 1, none⟩) (by simp) (.slice none 0 0)).set_ 0 (.int .i64 0)).set_ 1 (.slice none 0 0)).drew
      have v0 := (hs0.cell 0).trans (show _ = some (Value.int .i64 0) from rfl)
      have v1 := (hs0.cell 1).trans (show _ = some (Value.slice none 0 0) from rfl)
      have v2 := (hs1.cell 0).trans (show _ = some (Value.int .i64 0) from rfl)
      have v3 := (hs1.cell 1).trans (show _ = some (Value.slice none 0 0) from rfl)
      have hfin := ((((hWb.setCell (p := ⟨w.heap.size + 2, 0, none⟩) (by simp) (.int .i64 0)).setCell (p := ⟨w.heap.size + 2, 1, none⟩) (by simp) (.slice none 0 0)).setCell (p := ⟨w.heap.size + 3, 0, none⟩) (by simp) (.int .i64 0)).setCell (p := ⟨w.heap.size + 3, 1, none⟩) (by simp) (.slice none 0 0)).drew
      go_wp2_with fail
      refine bodyPost_ret (v := .tuple #[.agg #[.int .i64 0, .slice none 0 0], .agg #[.int .i64 0, .slice none 0 0], .bool false]) (by simp [results, Try.results27, go_sem, v0, v1, v2, v3]) rfl ⟨hfin, .inl ⟨rfl, rfl⟩⟩
  clear hR0 hR1 hWb hBW hWl hb1
  have HO : Hid (o = unl (imgsS wd s n (wayS n a) ds).reverse (imgsS wd t n' (wayS n' a) ds').reverse) := by show _ = _; rw [HC.out, if_neg (by simp [hst])]
  have HN : Hid (∃ x y, o = some (x, y)) := by
    obtain ⟨x, y, e, _⟩ := HXX.out hst (by trivial) HH2.out
    exact ⟨x, y, HO.out.trans e⟩
  clear HXX HH2 HC
  have p0 := (hP2.cell 0).trans (show _ = some (Value.int .i64 n) from rfl)
  have p1 := (hP2.cell 1).trans (show _ = some (Value.int .i64 a) from rfl)
  have p2 := (hP2.cell 2).trans (show _ = some (Value.slice A ds.length c) from rfl)
  have hk := hok (by trivial)
  have hk' := hok' (by trivial)
  have hup := fun W g1 g2 => images_all wd s hs n a ds A c B W g1 g2 hd (by simp [maxLen]; omega)
  have hup' := fun W g1 g2 => images_all wd t ht n' a ds' A' c' B W g1 g2 hd' (by simp [maxLen]; omega)
  have hl1 : (imgsS wd s n (wayS n a) ds).length ≤ 1000000002 := by rw [imgsS_len (wd := wd) (s := s) hk]; omega
  have hl2 : (imgsS wd t n' (wayS n' a) ds').length ≤ 1000000002 := by rw [imgsS_len (wd := wd) (s := t) hk']; omega
  have ht1 := imgsS_two wd s n (wayS n a) ds
  have ht2 := imgsS_two wd t n' (wayS n' a) ds'
  have HK := Lib.hid hk
  have HK' := Lib.hid hk'
  clear hok hok' hk hk'
  go_wp2_with fail
  refine (hup _ hr2 (by omega)).mono ?_
  rintro e w3 hans
  obtain ⟨A3, c3, rfl, hi3, hb3⟩ := hans.get HK.out
  have hb3s := hb3.size
  have q0 := ((hQ2.below hb3 hQ2.lt).cell 0).trans (show _ = some (Value.int .i64 n') from rfl)
  have q1 := ((hQ2.below hb3 hQ2.lt).cell 1).trans (show _ = some (Value.int .i64 a) from rfl)
  have q2 := ((hQ2.below hb3 hQ2.lt).cell 2).trans (show _ = some (Value.slice A' ds'.length c') from rfl)
  clear hans
  go_wp2_with fail
  refine (hup' w3 (Rd.below hr2' (hb3.mono (by omega))) (by omega)).mono ?_
  rintro e w4 hans
  obtain ⟨A4, c4, rfl, hi4, hb4⟩ := hans.get HK'.out
  have hb4s := hb4.size
  have hb34 := hb3.trans (hb4.mono hb3s)
  have hR04 := hR02.below hb34 hR02.lt
  have hR14 := hR12.below hb34 hR12.lt
  have hbel4 := hbel2.trans (hb34.mono (by omega))
  have hi34 := ImgR.more (hi3.below hb4) hb4s (Nat.le_refl w2.heap.size)
  have hi44 := ImgR.more hi4 (Nat.le_refl _) hb3s
  have hw4 : w2.heap.size ≤ w4.heap.size := by omega
  clear hans p0 p1 p2 q0 q1 q2 hR02 hR12 hbel2 hi3 hi4 hup hup' hb3 hb4 hb34 hr2 hr2' hP2 hQ2 HK HK' hb3s hb4s
  generalize (imgsS wd s n (wayS n a) ds) = l at *
  generalize (imgsS wd t n' (wayS n' a) ds') = m at *
  go_wp2_with fail
  go_loopw [19] (fun i wr => ∃ k : Nat, i = .int .i64 ((k : Int) + 1) ∧ o = unl (l.reverse.drop k) (m.reverse.drop k) ∧ Blk wr (w.heap.size + 2) 45 #[.int .i64 0, .slice none 0 0] ∧ Blk wr (w.heap.size + 3) 45 #[.int .i64 0, .slice none 0 0] ∧ Below w4.heap.size w4 wr) (fun i _ => (l.length + 1 - (intOf i).toNat))
  case atStart => exact ⟨0, by go_num, HO.out, hR04, hR14, Below.refl _ _⟩
  case round =>
    obtain ⟨k, rfl, hu, hr0, hr1, hb⟩ := hrel
    clear hR04 hR14 HO
    have hkk : k < l.length ∧ k < m.length := by
      obtain ⟨x, y, e⟩ := HN.out
      by_cases h : k < l.length → ¬ k < m.length
      · rw [hu, unl_end h] at e; cases e
      · constructor
        · exact Nat.lt_of_not_le fun h1 => h fun h2 => absurd h2 (by omega)
        · exact Nat.lt_of_not_le fun h1 => h fun _ => by omega
    obtain ⟨h1, h2⟩ := hkk
    have HU := Lib.hid hu
    clear hu
    have z0 := (hr0.cell 0).trans (show _ = some (Value.int .i64 0) from rfl)
    have hsz := hb.size
    obtain ⟨b, off, Ax, cx, rfl, hbB, kx0, kx1, hsx, hfx⟩ := (hi34.below hb) (l.length - 1 - k) (by omega)
    obtain ⟨b', off', Ay, cy, rfl, hbB', ky0, ky1, hsy, hfy⟩ := (hi44.below hb) (m.length - 1 - k) (by omega)
    have HX := Lib.hid (rev_drop l k h1)
    have HY := Lib.hid (rev_drop m k h2)
    have hxl := ht1 _ (List.getElem_mem (by omega : l.length - 1 - k < l.length))
    have hyl := ht2 _ (List.getElem_mem (by omega : m.length - 1 - k < m.length))
    generalize l[l.length - 1 - k] = x at *
    generalize m[m.length - 1 - k] = y at *
    have hw1 : IntKind.i64.wrap ((l.length : Int) - ((k : Int) + 1)) = ((l.length - 1 - k : Nat) : Int) := by rw [IntWalk.i64_in _ (by omega)]; omega
    have hw2 : IntKind.i64.wrap ((m.length : Int) - ((k : Int) + 1)) = ((m.length - 1 - k : Nat) : Int) := by rw [IntWalk.i64_in _ (by omega)]; omega
    have hw1' : wrap64 ((l.length : Int) - ((k : Int) + 1)) = ((l.length - 1 - k : Nat) : Int) := by rw [← IntWalk.i64_left]; exact hw1
    have hw2' : wrap64 ((m.length : Int) - ((k : Int) + 1)) = ((m.length - 1 - k : Nat) : Int) := by rw [← IntWalk.i64_left]; exact hw2
    have hx1 : l.length - 1 - k < l.length := by omega
    have hx2 : m.length - 1 - k < m.length := by omega
    generalize hI : l.length - 1 - k = I at *
    generalize hJ : m.length - 1 - k = J at *
    have hx1i : (I : Int) < (l.length : Int) := by omega
    have hx2i : (J : Int) < (m.length : Int) := by omega
    have hx1n : (0 : Int) ≤ (I : Int) := by omega
    have hx2n : (0 : Int) ≤ (J : Int) := by omega
    clear hI hJ
    have HR := Lib.hid hr1
    have HR0 := Lib.hid hr0
    clear z0 hr0 hr1
    go_upto_region 7 with fail
    go_cut [20, 21] (fun px py wc => ∃ Q0 Q1 : Nat, px = .pointer (some ⟨Q0, 0, none⟩) ∧ py = .pointer (some ⟨Q1, 0, none⟩) ∧ Blk wc Q0 45 #[.int .i64 x.1, .slice Ax x.2.length cx] ∧ Blk wc Q1 45 #[.int .i64 y.1, .slice Ay y.2.length cy] ∧ Below wr.heap.size wr wc ∧ wr.heap.size ≤ Q0 ∧ wr.heap.size ≤ Q1)
    case first =>
      as_aux_lemma =>
      have nb : ¬ b = wr.heap.size := by omega
      have nb1 : ¬ b = wr.heap.size + 1 := by omega
      have nb' : ¬ b' = wr.heap.size := by omega
      have nb1' : ¬ b' = wr.heap.size + 1 := by omega
      go_region_held3 (fun W => W.cell? ⟨b, off + I * 2, none⟩ = some (.int .i64 x.1) ∧ W.cell? ⟨b, off + I * 2 + 1, none⟩ = some (.slice Ax x.2.length cx) ∧ W.cell? ⟨b', off' + J * 2, none⟩ = some (.int .i64 y.1) ∧ W.cell? ⟨b', off' + J * 2 + 1, none⟩ = some (.slice Ay y.2.length cy)) (go_keep) (fail)
      all_goals
        go_wp2_with fail
        go_meet
        have hSX : wr.heap.size < (wr.alloc (.cells #[.int .i64 x.1, .slice Ax x.2.length cx] 45)).heap.size := by simp
        have hSY : wr.heap.size < (wr.alloc (.cells #[.int .i64 y.1, .slice Ay y.2.length cy] 45)).heap.size := by simp
        have hNX := Blk.new (wr.alloc (.cells #[.int .i64 x.1, .slice Ax x.2.length cx] 45)) 45 #[.int .i64 y.1, .slice Ay y.2.length cy]
        have hNY := Blk.new (wr.alloc (.cells #[.int .i64 y.1, .slice Ay y.2.length cy] 45)) 45 #[.int .i64 x.1, .slice Ax x.2.length cx]
        rw [show (wr.alloc (.cells #[.int .i64 x.1, .slice Ax x.2.length cx] 45)).heap.size = wr.heap.size + 1 from by simp] at hNX
        rw [show (wr.alloc (.cells #[.int .i64 y.1, .slice Ay y.2.length cy] 45)).heap.size = wr.heap.size + 1 from by simp] at hNY
        first
          | exact ⟨_, _, rfl, rfl, Blk.drew ((Blk.new _ _ _).alloc _), Blk.drew hNX, (((Below.refl _ _).alloc (Nat.le_refl _) _).alloc (Nat.le_of_lt hSX) _).drew, Nat.le_refl _, Nat.le_succ _⟩
          | exact ⟨_, _, rfl, rfl, Blk.drew hNY, Blk.drew ((Blk.new _ _ _).alloc _), (((Below.refl _ _).alloc (Nat.le_refl _) _).alloc (Nat.le_of_lt hSY) _).drew, Nat.le_succ _, Nat.le_refl _⟩
    case rest =>
      obtain ⟨Q0, Q1, rfl, rfl, hq0, hq1, hbc, hQ0, hQ1⟩ := hcut
      have hBG : w4.heap.size ≤ wr.heap.size := hsz
      have hr0 := (HR0.out).below hbc HR0.out.lt
      have hr1 := (HR.out).below hbc HR.out.lt
      have hsxc := Rd.below hsx (hbc.mono hBG)
      have hsyc := Rd.below hsy (hbc.mono hBG)
      have hbW := hb.trans (hbc.mono hBG)
      have hcs := hbc.size
      have hsame := same_any x y Ax Ay cx cy _ _ _ hsxc hsyc (by omega) (by omega) hxl hyl
      have g0 := (hq0.cell 0).trans (show _ = some (Value.int .i64 x.1) from rfl)
      have g1 := (hq0.cell 1).trans (show _ = some (Value.slice Ax x.2.length cx) from rfl)
      have g2 := (hq1.cell 0).trans (show _ = some (Value.int .i64 y.1) from rfl)
      have g3 := (hq1.cell 1).trans (show _ = some (Value.slice Ay y.2.length cy) from rfl)
      go_wp2_with fail
      refine hsame.mono ?_
      rintro e w5 ⟨rfl, hb5⟩
      have hq05 := hq0.below hb5 hq0.lt
      have hq15 := hq1.below hb5 hq1.lt
      have hr05 := hr0.below hb5 hr0.lt
      have hr15 := hr1.below hb5 hr1.lt
      have hbel5 := hbW.trans (hb5.mono (by omega))
      have hsx5 := Rd.below hsxc (hb5.mono (by omega))
      have hsy5 := Rd.below hsyc (hb5.mono (by omega))
      have hl1 := HR.out.lt
      have hz5 := hb5.size
      clear g0 g1 g2 g3 hq0 hq1 hr0 hr1 hsxc hsyc hsx hsy hbW hb5 hsame kx0 kx1 ky0 ky1 HR HR0
      cases hsm : sameI x y
      · have hfin := hbel4.trans (hbel5.mono (by omega))
        have q00 := (hq05.cell 0).trans (show _ = some (Value.int .i64 x.1) from rfl)
        have q01 := (hq05.cell 1).trans (show _ = some (Value.slice Ax x.2.length cx) from rfl)
        have q10 := (hq15.cell 0).trans (show _ = some (Value.int .i64 y.1) from rfl)
        have q11 := (hq15.cell 1).trans (show _ = some (Value.slice Ay y.2.length cy) from rfl)
        have z0 := (hr05.cell 0).trans (show _ = some (Value.int .i64 0) from rfl)
        have z1 := (hr05.cell 1).trans (show _ = some (Value.slice none 0 0) from rfl)
        have y0 := (hr15.cell 0).trans (show _ = some (Value.int .i64 0) from rfl)
        have y1 := (hr15.cell 1).trans (show _ = some (Value.slice none 0 0) from rfl)
        have f0 := hr05.frozen 0
        have f1 := hr05.frozen 1
        have u0 := hr15.frozen 0
        have u1 := hr15.frozen 1
        have n1 : ¬ w.heap.size + 2 = Q1 := by omega
        have n2 : ¬ w.heap.size + 3 = Q0 := by omega
        have n3 : ¬ Q1 = w.heap.size + 2 := by omega
        have n4 : ¬ Q0 = w.heap.size + 3 := by omega
        go_wp2_with fail
        go_region
        all_goals
          have hs0 := (((hr05.set_ 0 (.int .i64 x.1)).set_ 1 (.slice Ax x.2.length cx)).far (p := ⟨w.heap.size + 3, 0, none⟩) (by simp) (.int .i64 y.1) |>.far (p := ⟨w.heap.size + 3, 1, none⟩) (by simp) (.slice Ay y.2.length cy)).drew
          have hs1 := ((((hr15.far (p := ⟨w.heap.size + 2, 0, none⟩) (by simp) (.int .i64 x.1)).far (p := ⟨w.heap.size + 2, 1, none⟩) (by simp) (.slice Ax x.2.length cx)).set_ 0 (.int .i64 y.1)).set_ 1 (.slice Ay y.2.length cy)).drew
          have v0 := (hs0.cell 0).trans (show _ = some (Value.int .i64 x.1) from rfl)
          have v1 := (hs0.cell 1).trans (show _ = some (Value.slice Ax x.2.length cx) from rfl)
          have v2 := (hs1.cell 0).trans (show _ = some (Value.int .i64 y.1) from rfl)
          have v3 := (hs1.cell 1).trans (show _ = some (Value.slice Ay y.2.length cy) from rfl)
          go_wp2_with fail
          refine bodyPost_ret (v := .tuple #[.agg #[.int .i64 x.1, .slice Ax x.2.length cx], .agg #[.int .i64 y.1, .slice Ay y.2.length cy], .bool true]) (by simp [results, Try.results27, go_sem, v0, v1, v2, v3]) rfl ⟨?_, .inr ⟨x, y, Ax, cx, Ay, cy, ?_, rfl, ?_, ?_, fun b off e => by have := hfx b off e; omega, fun b off e => by have := hfy b off e; omega⟩⟩
          · exact ((((hfin.setCell (by simp; omega) _).setCell (by simp; omega) _).setCell (by simp; omega) _).setCell (by simp; omega) _).drew
          · rw [HU.out, HX.out, HY.out, unl, hsm]; rfl
          · exact Rd.drew (Rd.more (Rd.setCellF (Rd.setCellF (Rd.setCellF (Rd.setCellF hsx5 hfx (by show _ + 2 < _; omega) _) hfx (by show _ + 2 < _; omega) _) hfx (by show _ + 3 < _; omega) _) hfx (by show _ + 3 < _; omega) _) (by simp [World.setCell]; omega))
          · exact Rd.drew (Rd.more (Rd.setCellF (Rd.setCellF (Rd.setCellF (Rd.setCellF hsy5 hfy (by show _ + 2 < _; omega) _) hfy (by show _ + 2 < _; omega) _) hfy (by show _ + 3 < _; omega) _) hfy (by show _ + 3 < _; omega) _) (by simp [World.setCell]; omega))
      · go_wp2_with fail
        go_roundw
        case rel =>
          refine ⟨k + 1, by go_num, ?_, hr05, hr15, hbel5⟩
          rw [HU.out, HX.out, HY.out, unl, hsm]; rfl
        case measure => simp [intOf]; omega
end Go.Proofs.Ytjmkcndjjfokiaa
