/- Two paths of one place: what the reference's ListClash tells. -/
import Derived.Test.YtjmkcndjjfokiaaProg
import Derived.Test.YtjmkcndjjfokiaaClash3
namespace Go.Proofs.Ytjmkcndjjfokiaa
open Go.RowKit
theorem ImgR.more {w : World} {lo lo' B B' : Nat} {A : Option Addr} {l : List ImgP} (h : ImgR w lo B A l) (hb : B ≤ B') (hl : lo' ≤ lo) : ImgR w lo' B' A l := fun k hk => by
  obtain ⟨b, off, A', c, e, h1, h2, h3, h4, h5⟩ := h k hk
  exact ⟨b, off, A', c, e, by omega, h2, h3, Rd.more h4 hb, fun b off e => Nat.le_trans hl (h5 b off e)⟩
/-- what is told of two paths -/
def clashS (wd R : Int) (s : List UInt8) (n a : Int) (ds : List Int) (t : List UInt8) (n' a' : Int) (ds' : List Int) : Option (ImgP × ImgP) :=
  if s = t ∨ a ≠ a' ∨ holdsS wd R s n a ds = false ∨ holdsS wd R t n' a' ds' = false then none else unl (imgsS wd s n (wayS n a) ds).reverse (imgsS wd t n' (wayS n' a') ds').reverse
theorem imgsS_len {wd : Int} {s : List UInt8} {n a : Int} {ds : List Int} (h : okP n a ds = true) : (imgsS wd s n (wayS n a) ds).length = ds.length + 2 := by
  have := clims_full wd (ofS wd 0 [s]) (wayS n a) ds (okP_true h).2.2.2
  simp [imgsS, this]
theorem clims_two (w d : Int) : ∀ (ways : List Bool) (ds : List Int), ∀ x ∈ clims w d ways ds, x.2.length = 2
  | [], _, x, hx => by simp [clims] at hx
  | _ :: _, [], x, hx => by simp [clims] at hx
  | r :: ways, s :: ds, x, hx => by
    simp only [clims, List.mem_append, List.mem_singleton] at hx
    rcases hx with hx | rfl
    · exact clims_two w d ways ds x hx
    · exact pairS_len _ _ _
theorem imgsS_two (wd : Int) (s : List UInt8) (n : Int) (ways : List Bool) (ds : List Int) : ∀ x ∈ imgsS wd s n ways ds, x.2.length ≤ maxLen := fun x hx => by
  have : x.2.length ≤ 2 := by
    simp only [imgsS, List.mem_append, List.mem_cons, List.not_mem_nil, or_false] at hx
    rcases hx with (rfl | hx) | rfl
    · simp
    · have := clims_two _ _ _ _ x hx; omega
    · simp
  simp [maxLen]; omega
/-- the images, as they are read -/
theorem ImgsAns.get {w w' : World} {wd : Int} {s : List UInt8} {n a : Int} {ds : List Int} {e : Ending} (h : ImgsAns w wd s n a ds e w') (hk : okP n a ds = true) :
    ∃ A c, e = .returned (.tuple #[.slice A (imgsS wd s n (wayS n a) ds).length c, .bool true]) ∧ ImgR w' w.heap.size w'.heap.size A (imgsS wd s n (wayS n a) ds) ∧ Below w.heap.size w w' := by
  obtain ⟨v, xs, rfl, hown, himg, hb⟩ := h.1 hk
  obtain ⟨A, c, rfl⟩ := own_shape hown
  have hl := imgsS_len (wd := wd) (s := s) hk
  exact ⟨A, c, by rw [hl], ImgR.of hown himg, hb⟩
/-- a world with four blocks of one's own on top -/
theorem four_blks (w : World) (t0 t1 t2 t3 : TypeId) (c0 c1 c2 c3 : Array Value) : ∃ W, ((((w.alloc (.cells c0 t0)).alloc (.cells c1 t1)).alloc (.cells c2 t2)).alloc (.cells c3 t3)) = W ∧ W.heap.size = w.heap.size + 4 ∧ Below w.heap.size w W ∧ Blk W w.heap.size t0 c0 ∧ Blk W (w.heap.size + 1) t1 c1 ∧ Blk W (w.heap.size + 2) t2 c2 ∧ Blk W (w.heap.size + 3) t3 c3 := by
  refine ⟨_, rfl, by simp, ((((Below.refl _ _).alloc (Nat.le_refl _) _).alloc (by simp) _).alloc (by simp; omega) _).alloc (by simp; omega) _, ?_, ?_, ?_, ?_⟩
  · exact (((Blk.new w t0 c0).alloc _).alloc _).alloc _
  · have := (((Blk.new (w.alloc (.cells c0 t0)) t1 c1).alloc (.cells c2 t2)).alloc (.cells c3 t3)); simpa using this
  · have := ((Blk.new ((w.alloc (.cells c0 t0)).alloc (.cells c1 t1)) t2 c2).alloc (.cells c3 t3)); simpa using this
  · have := Blk.new (((w.alloc (.cells c0 t0)).alloc (.cells c1 t1)).alloc (.cells c2 t2)) t3 c3; simpa using this
set_option maxRecDepth 100000 in
set_option maxHeartbeats 2000000 in
theorem rlistClash_any (wd R : Int) (s t : List UInt8) (hs : s.length ≤ maxLen) (ht : t.length ≤ maxLen) (n a n' a' : Int) (ds ds' : List Int) (A A' : Option Addr) (c c' B : Nat) (w : World) (hr : Rd w B 1 A ds.length (digs ds)) (hr' : Rd w B 1 A' ds'.length (digs ds')) (hB : B ≤ w.heap.size) (hd : ∀ d ∈ ds, 0 ≤ d ∧ d < 18446744073709551616) (hd' : ∀ d ∈ ds', 0 ≤ d ∧ d < 18446744073709551616) (hdl : ds.length ≤ 1000000000) (hdl' : ds'.length ≤ 1000000000) :
    Calls Try.prog 28 #[.int .i64 wd, .int .u64 R, .string (bs s), .agg #[.int .i64 n, .int .i64 a, .slice A ds.length c], .string (bs t), .agg #[.int .i64 n', .int .i64 a', .slice A' ds'.length c']] w (ClashAns w w.heap.size (clashS wd R s n a ds t n' a' ds')) := by
  have HC : Hid (clashS wd R s n a ds t n' a' ds' = if s = t ∨ a ≠ a' ∨ holdsS wd R s n a ds = false ∨ holdsS wd R t n' a' ds' = false then none else unl (imgsS wd s n (wayS n a) ds).reverse (imgsS wd t n' (wayS n' a') ds').reverse) := rfl
  generalize clashS wd R s n a ds t n' a' ds' = o at *
  have hho := fun W g1 g2 => rholds_any wd R s hs n a ds A c B W g1 g2 hd (by omega)
  have hho' := fun W g1 g2 => rholds_any wd R t ht n' a' ds' A' c' B W g1 g2 hd' (by omega)
  have hok : holdsS wd R s n a ds = true → okP n a ds = true := fun h => by unfold holdsS at h; simp only [Bool.and_eq_true] at h; exact h.1
  have hok' : holdsS wd R t n' a' ds' = true → okP n' a' ds' = true := fun h => by unfold holdsS at h; simp only [Bool.and_eq_true] at h; exact h.1
  generalize holdsS wd R s n a ds = H1 at *
  generalize holdsS wd R t n' a' ds' = H2 at *
  obtain ⟨W, hW, hWs, hWb, hP, hQ, hR0, hR1⟩ := four_blks w 37 37 45 45 #[.int .i64 n, .int .i64 a, .slice A ds.length c] #[.int .i64 n', .int .i64 a', .slice A' ds'.length c'] #[.int .i64 0, .slice none 0 0] #[.int .i64 0, .slice none 0 0]
  have HW := Lib.hid hW
  have HWs := Lib.hid hWs
  have hWl : w.heap.size + 4 ≤ W.heap.size := by omega
  clear hW hWs
  go_enter Try.func28, Try.ntmps28
  go_upto_region 1 with fail
  rw [HW.out]
  clear HW
  have hrW := Rd.below hr (hWb.mono hB)
  have hrW' := Rd.below hr' (hWb.mono hB)
  have hBW : B ≤ W.heap.size := by omega
  have p0 := (hP.cell 0).trans (show _ = some (Value.int .i64 n) from rfl)
  have p1 := (hP.cell 1).trans (show _ = some (Value.int .i64 a) from rfl)
  have p2 := (hP.cell 2).trans (show _ = some (Value.slice A ds.length c) from rfl)
  go_wp2_with fail
  refine (hho W hrW hBW).mono ?_
  rintro e w1 ⟨rfl, hb1⟩
  have q0 := ((hQ.below hb1 hQ.lt).cell 0).trans (show _ = some (Value.int .i64 n') from rfl)
  have q1 := ((hQ.below hb1 hQ.lt).cell 1).trans (show _ = some (Value.int .i64 a') from rfl)
  have q2 := ((hQ.below hb1 hQ.lt).cell 2).trans (show _ = some (Value.slice A' ds'.length c') from rfl)
  have hb1s := hb1.size
  go_wp2_with fail
  refine (hho' w1 (Rd.below hrW' (hb1.mono hBW)) (by omega)).mono ?_
  rintro e w2 ⟨rfl, hb2⟩
  have hb12 := hb1.trans (hb2.mono hb1s)
  have hP2 := hP.below hb12 hP.lt
  have hQ2 := hQ.below hb12 hQ.lt
  have hR02 := hR0.below hb12 hR0.lt
  have hR12 := hR1.below hb12 hR1.lt
  have hbel2 := hWb.trans (hb12.mono (by omega))
  have hr2 := Rd.below hrW (hb12.mono hBW)
  have hr2' := Rd.below hrW' (hb12.mono hBW)
  have hz2 : w.heap.size + 4 ≤ w2.heap.size := by have := hb12.size; omega
  clear p0 p1 p2 q0 q1 q2 hP hQ hR0 hR1 hrW hrW' hb12 hb1 hb2 hho hho' hWb hBW hWl hb1s hr hr'
  have p0 := (hP2.cell 0).trans (show _ = some (Value.int .i64 n) from rfl)
  have p1 := (hP2.cell 1).trans (show _ = some (Value.int .i64 a) from rfl)
  have p2 := (hP2.cell 2).trans (show _ = some (Value.slice A ds.length c) from rfl)
  have q0 := (hQ2.cell 0).trans (show _ = some (Value.int .i64 n') from rfl)
  have q1 := (hQ2.cell 1).trans (show _ = some (Value.int .i64 a') from rfl)
  have q2 := (hQ2.cell 2).trans (show _ = some (Value.slice A' ds'.length c') from rfl)
  by_cases hno : s = t ∨ a ≠ a' ∨ H1 = false ∨ H2 = false
  · have HO : Hid (o = none) := by show _ = _; rw [HC.out, if_pos hno]
    clear HC hok hok'
    by_cases hst : s = t
    · subst hst
      clear hno
      go_upto_region 4 with fail
      have z0 := (hR02.cell 0).trans (show _ = some (Value.int .i64 0) from rfl)
      have z1 := (hR02.cell 1).trans (show _ = some (Value.slice none 0 0) from rfl)
      have y0 := (hR12.cell 0).trans (show _ = some (Value.int .i64 0) from rfl)
      have y1 := (hR12.cell 1).trans (show _ = some (Value.slice none 0 0) from rfl)
      have f0 := hR02.frozen 0
      have f1 := hR02.frozen 1
      have g0 := hR12.frozen 0
      have g1 := hR12.frozen 1
      have hs0 := (((hR02.set_ 0 (.int .i64 0)).set_ 1 (.slice none 0 0)).far (p := ⟨w.heap.size + 3, 0, none⟩) (by simp) (.int .i64 0) |>.far (p := ⟨w.heap.size + 3, 1, none⟩) (by simp) (.slice none 0 0))
      have hs1 := ((((hR12.far (p := ⟨w.heap.size + 2, 0, none⟩) (by simp) (.int .i64 0)).far (p := ⟨w.heap.size + 2, 1, none⟩) (by simp) (.slice none 0 0)).set_ 0 (.int .i64 0)).set_ 1 (.slice none 0 0))
      have v0 := (hs0.cell 0).trans (show _ = some (Value.int .i64 0) from rfl)
      have v1 := (hs0.cell 1).trans (show _ = some (Value.slice none 0 0) from rfl)
      have v2 := (hs1.cell 0).trans (show _ = some (Value.int .i64 0) from rfl)
      have v3 := (hs1.cell 1).trans (show _ = some (Value.slice none 0 0) from rfl)
      have hfin := (((hbel2.setCell (p := ⟨w.heap.size + 2, 0, none⟩) (by simp) (.int .i64 0)).setCell (p := ⟨w.heap.size + 2, 1, none⟩) (by simp) (.slice none 0 0)).setCell (p := ⟨w.heap.size + 3, 0, none⟩) (by simp) (.int .i64 0)).setCell (p := ⟨w.heap.size + 3, 1, none⟩) (by simp) (.slice none 0 0)
      go_wp2_with fail
      refine bodyPost_ret (v := .tuple #[.agg #[.int .i64 0, .slice none 0 0], .agg #[.int .i64 0, .slice none 0 0], .bool false]) (by simp [results, Try.results28, go_sem, v0, v1, v2, v3]) rfl ⟨hfin, .inl ⟨HO.out, rfl⟩⟩
    have hst' : ¬ bs s = bs t := fun e => hst (bs_inj e)
    by_cases haa : a = a'
    · subst haa
      cases H1
      · clear hno
        go_upto_region 4 with fail
        have z0 := (hR02.cell 0).trans (show _ = some (Value.int .i64 0) from rfl)
        have z1 := (hR02.cell 1).trans (show _ = some (Value.slice none 0 0) from rfl)
        have y0 := (hR12.cell 0).trans (show _ = some (Value.int .i64 0) from rfl)
        have y1 := (hR12.cell 1).trans (show _ = some (Value.slice none 0 0) from rfl)
        have f0 := hR02.frozen 0
        have f1 := hR02.frozen 1
        have g0 := hR12.frozen 0
        have g1 := hR12.frozen 1
        have hs0 := (((hR02.set_ 0 (.int .i64 0)).set_ 1 (.slice none 0 0)).far (p := ⟨w.heap.size + 3, 0, none⟩) (by simp) (.int .i64 0) |>.far (p := ⟨w.heap.size + 3, 1, none⟩) (by simp) (.slice none 0 0))
        have hs1 := ((((hR12.far (p := ⟨w.heap.size + 2, 0, none⟩) (by simp) (.int .i64 0)).far (p := ⟨w.heap.size + 2, 1, none⟩) (by simp) (.slice none 0 0)).set_ 0 (.int .i64 0)).set_ 1 (.slice none 0 0))
        have v0 := (hs0.cell 0).trans (show _ = some (Value.int .i64 0) from rfl)
        have v1 := (hs0.cell 1).trans (show _ = some (Value.slice none 0 0) from rfl)
        have v2 := (hs1.cell 0).trans (show _ = some (Value.int .i64 0) from rfl)
        have v3 := (hs1.cell 1).trans (show _ = some (Value.slice none 0 0) from rfl)
        have hfin := (((hbel2.setCell (p := ⟨w.heap.size + 2, 0, none⟩) (by simp) (.int .i64 0)).setCell (p := ⟨w.heap.size + 2, 1, none⟩) (by simp) (.slice none 0 0)).setCell (p := ⟨w.heap.size + 3, 0, none⟩) (by simp) (.int .i64 0)).setCell (p := ⟨w.heap.size + 3, 1, none⟩) (by simp) (.slice none 0 0)
        go_wp2_with fail
        refine bodyPost_ret (v := .tuple #[.agg #[.int .i64 0, .slice none 0 0], .agg #[.int .i64 0, .slice none 0 0], .bool false]) (by simp [results, Try.results28, go_sem, v0, v1, v2, v3]) rfl ⟨hfin, .inl ⟨HO.out, rfl⟩⟩
      · obtain rfl : H2 = false := by simpa [hst] using hno
        clear hno
        go_upto_region 4 with fail
        have z0 := (hR02.cell 0).trans (show _ = some (Value.int .i64 0) from rfl)
        have z1 := (hR02.cell 1).trans (show _ = some (Value.slice none 0 0) from rfl)
        have y0 := (hR12.cell 0).trans (show _ = some (Value.int .i64 0) from rfl)
        have y1 := (hR12.cell 1).trans (show _ = some (Value.slice none 0 0) from rfl)
        have f0 := hR02.frozen 0
        have f1 := hR02.frozen 1
        have g0 := hR12.frozen 0
        have g1 := hR12.frozen 1
        have hs0 := (((hR02.set_ 0 (.int .i64 0)).set_ 1 (.slice none 0 0)).far (p := ⟨w.heap.size + 3, 0, none⟩) (by simp) (.int .i64 0) |>.far (p := ⟨w.heap.size + 3, 1, none⟩) (by simp) (.slice none 0 0))
        have hs1 := ((((hR12.far (p := ⟨w.heap.size + 2, 0, none⟩) (by simp) (.int .i64 0)).far (p := ⟨w.heap.size + 2, 1, none⟩) (by simp) (.slice none 0 0)).set_ 0 (.int .i64 0)).set_ 1 (.slice none 0 0))
        have v0 := (hs0.cell 0).trans (show _ = some (Value.int .i64 0) from rfl)
        have v1 := (hs0.cell 1).trans (show _ = some (Value.slice none 0 0) from rfl)
        have v2 := (hs1.cell 0).trans (show _ = some (Value.int .i64 0) from rfl)
        have v3 := (hs1.cell 1).trans (show _ = some (Value.slice none 0 0) from rfl)
        have hfin := (((hbel2.setCell (p := ⟨w.heap.size + 2, 0, none⟩) (by simp) (.int .i64 0)).setCell (p := ⟨w.heap.size + 2, 1, none⟩) (by simp) (.slice none 0 0)).setCell (p := ⟨w.heap.size + 3, 0, none⟩) (by simp) (.int .i64 0)).setCell (p := ⟨w.heap.size + 3, 1, none⟩) (by simp) (.slice none 0 0)
        go_wp2_with fail
        refine bodyPost_ret (v := .tuple #[.agg #[.int .i64 0, .slice none 0 0], .agg #[.int .i64 0, .slice none 0 0], .bool false]) (by simp [results, Try.results28, go_sem, v0, v1, v2, v3]) rfl ⟨hfin, .inl ⟨HO.out, rfl⟩⟩
    · have haa' : (a != a') = true := by simpa using haa
      clear hno
      go_upto_region 4 with fail
      have z0 := (hR02.cell 0).trans (show _ = some (Value.int .i64 0) from rfl)
      have z1 := (hR02.cell 1).trans (show _ = some (Value.slice none 0 0) from rfl)
      have y0 := (hR12.cell 0).trans (show _ = some (Value.int .i64 0) from rfl)
      have y1 := (hR12.cell 1).trans (show _ = some (Value.slice none 0 0) from rfl)
      have f0 := hR02.frozen 0
      have f1 := hR02.frozen 1
      have g0 := hR12.frozen 0
      have g1 := hR12.frozen 1
      have hs0 := (((hR02.set_ 0 (.int .i64 0)).set_ 1 (.slice none 0 0)).far (p := ⟨w.heap.size + 3, 0, none⟩) (by simp) (.int .i64 0) |>.far (p := ⟨w.heap.size + 3, 1, none⟩) (by simp) (.slice none 0 0))
      have hs1 := ((((hR12.far (p := ⟨w.heap.size + 2, 0, none⟩) (by simp) (.int .i64 0)).far (p := ⟨w.heap.size + 2, 1, none⟩) (by simp) (.slice none 0 0)).set_ 0 (.int .i64 0)).set_ 1 (.slice none 0 0))
      have v0 := (hs0.cell 0).trans (show _ = some (Value.int .i64 0) from rfl)
      have v1 := (hs0.cell 1).trans (show _ = some (Value.slice none 0 0) from rfl)
      have v2 := (hs1.cell 0).trans (show _ = some (Value.int .i64 0) from rfl)
      have v3 := (hs1.cell 1).trans (show _ = some (Value.slice none 0 0) from rfl)
      have hfin := (((hbel2.setCell (p := ⟨w.heap.size + 2, 0, none⟩) (by simp) (.int .i64 0)).setCell (p := ⟨w.heap.size + 2, 1, none⟩) (by simp) (.slice none 0 0)).setCell (p := ⟨w.heap.size + 3, 0, none⟩) (by simp) (.int .i64 0)).setCell (p := ⟨w.heap.size + 3, 1, none⟩) (by simp) (.slice none 0 0)
      go_wp2_with fail
      refine bodyPost_ret (v := .tuple #[.agg #[.int .i64 0, .slice none 0 0], .agg #[.int .i64 0, .slice none 0 0], .bool false]) (by simp [results, Try.results28, go_sem, v0, v1, v2, v3]) rfl ⟨hfin, .inl ⟨HO.out, rfl⟩⟩
  · have HO : Hid (o = unl (imgsS wd s n (wayS n a) ds).reverse (imgsS wd t n' (wayS n' a') ds').reverse) := by show _ = _; rw [HC.out, if_neg hno]
    simp only [not_or, Bool.not_eq_false, ne_eq, Decidable.not_not] at hno
    obtain ⟨hst, rfl, rfl, rfl⟩ := hno
    have hk := hok rfl
    have hk' := hok' rfl
    have hup := fun W g1 g2 => up_all wd s hs n a ds A c B W g1 g2 hd (by simp [maxLen]; omega)
    have hup' := fun W g1 g2 => up_all wd t ht n' a ds' A' c' B W g1 g2 hd' (by simp [maxLen]; omega)
    have hl1 : (imgsS wd s n (wayS n a) ds).length ≤ 1000000002 := by rw [imgsS_len (wd := wd) (s := s) hk]; omega
    have hl2 : (imgsS wd t n' (wayS n' a) ds').length ≤ 1000000002 := by rw [imgsS_len (wd := wd) (s := t) hk']; omega
    have ht1 := imgsS_two wd s n (wayS n a) ds
    have ht2 := imgsS_two wd t n' (wayS n' a) ds'
    have hst' : ¬ bs s = bs t := fun e => hst (bs_inj e)
    have HK := Lib.hid hk
    have HK' := Lib.hid hk'
    clear HC hok hok' hk hk'
    go_wp2_with fail
    refine (hup _ hr2 (by omega)).mono ?_
    rintro e w3 hans
    obtain ⟨A3, c3, rfl, hi3, hb3⟩ := hans.get HK.out
    have hb3s := hb3.size
    have q0 := ((hQ2.below hb3 hQ2.lt).cell 0).trans (show _ = some (Value.int .i64 n') from rfl)
    have q1 := ((hQ2.below hb3 hQ2.lt).cell 1).trans (show _ = some (Value.int .i64 a) from rfl)
    have q2 := ((hQ2.below hb3 hQ2.lt).cell 2).trans (show _ = some (Value.slice A' ds'.length c') from rfl)
    clear hans
    go_wp2_with fail
    refine (hup' w3 (Rd.below hr2' (hb3.mono (by omega))) (by omega)).mono ?_
    rintro e w4 hans
    obtain ⟨A4, c4, rfl, hi4, hb4⟩ := hans.get HK'.out
    have hb4s := hb4.size
    have hb34 := hb3.trans (hb4.mono hb3s)
    have hR04 := hR02.below hb34 hR02.lt
    have hR14 := hR12.below hb34 hR12.lt
    have hbel4 := hbel2.trans (hb34.mono (by omega))
    have hi34 := ImgR.more (hi3.below hb4) hb4s (Nat.le_refl _)
    have hi44 := ImgR.more hi4 (Nat.le_refl _) hb3s
    clear hans p0 p1 p2 q0 q1 q2 hR02 hR12 hbel2 hi3 hup hup' hb3 hb4 hb34 hr2 hr2' hP2 hQ2
    have HUN := runlike_any (imgsS wd s n (wayS n a) ds) (imgsS wd t n' (wayS n' a) ds') A3 A4 c3 c4 w2.heap.size w4.heap.size w4 hi34 hi44 (Nat.le_refl _) (by omega) (by omega) ht1 ht2
    rw [← HO.out] at HUN
    generalize (imgsS wd s n (wayS n a) ds) = l1 at *
    generalize (imgsS wd t n' (wayS n' a) ds') = l2 at *
    go_wp2_with fail
    refine HUN.mono ?_
    rintro e w5 ⟨hb5, hres⟩
    clear HUN HO hi34 hi4 hi44
    have hR05 := hR04.below hb5 hR04.lt
    have hR15 := hR14.below hb5 hR14.lt
    have hbel5 := hbel4.trans (hb5.mono (by omega))
    have f0 := hR05.frozen 0
    have f1 := hR05.frozen 1
    have g0 := hR15.frozen 0
    have g1 := hR15.frozen 1
    have z0 := (hR05.cell 0).trans (show _ = some (Value.int .i64 0) from rfl)
    have z1 := (hR05.cell 1).trans (show _ = some (Value.slice none 0 0) from rfl)
    have y0 := (hR15.cell 0).trans (show _ = some (Value.int .i64 0) from rfl)
    have y1 := (hR15.cell 1).trans (show _ = some (Value.slice none 0 0) from rfl)
    rcases hres with ⟨rfl, rfl⟩ | ⟨x, y, Ax, cx, Ay, cy, rfl, rfl, hsx, hsy, hfx, hfy⟩
    · have tok := True.intro
      have hs0 := (((hR05.set_ 0 (.int .i64 0)).set_ 1 (.slice none 0 0)).far (p := ⟨w.heap.size + 3, 0, none⟩) (by simp) (.int .i64 0) |>.far (p := ⟨w.heap.size + 3, 1, none⟩) (by simp) (.slice none 0 0))
      have hs1 := ((((hR15.far (p := ⟨w.heap.size + 2, 0, none⟩) (by simp) (.int .i64 0)).far (p := ⟨w.heap.size + 2, 1, none⟩) (by simp) (.slice none 0 0)).set_ 0 (.int .i64 0)).set_ 1 (.slice none 0 0))
      have v0 := (hs0.cell 0).trans (show _ = some (Value.int .i64 0) from rfl)
      have v1 := (hs0.cell 1).trans (show _ = some (Value.slice none 0 0) from rfl)
      have v2 := (hs1.cell 0).trans (show _ = some (Value.int .i64 0) from rfl)
      have v3 := (hs1.cell 1).trans (show _ = some (Value.slice none 0 0) from rfl)
      have hfin := (((hbel5.setCell (p := ⟨w.heap.size + 2, 0, none⟩) (by simp) (.int .i64 0)).setCell (p := ⟨w.heap.size + 2, 1, none⟩) (by simp) (.slice none 0 0)).setCell (p := ⟨w.heap.size + 3, 0, none⟩) (by simp) (.int .i64 0)).setCell (p := ⟨w.heap.size + 3, 1, none⟩) (by simp) (.slice none 0 0)
      go_wp2_with fail
      refine bodyPost_ret (v := .tuple #[.agg #[.int .i64 0, .slice none 0 0], .agg #[.int .i64 0, .slice none 0 0], .bool false]) (by simp [results, Try.results28, go_sem, v0, v1, v2, v3]) rfl ⟨hfin, .inl ⟨rfl, rfl⟩⟩
    · have tok := True.intro
      have hs0 := (((hR05.set_ 0 (.int .i64 x.1)).set_ 1 (.slice Ax x.2.length cx)).far (p := ⟨w.heap.size + 3, 0, none⟩) (by simp) (.int .i64 y.1) |>.far (p := ⟨w.heap.size + 3, 1, none⟩) (by simp) (.slice Ay y.2.length cy))
      have hs1 := ((((hR15.far (p := ⟨w.heap.size + 2, 0, none⟩) (by simp) (.int .i64 x.1)).far (p := ⟨w.heap.size + 2, 1, none⟩) (by simp) (.slice Ax x.2.length cx)).set_ 0 (.int .i64 y.1)).set_ 1 (.slice Ay y.2.length cy))
      have v0 := (hs0.cell 0).trans (show _ = some (Value.int .i64 x.1) from rfl)
      have v1 := (hs0.cell 1).trans (show _ = some (Value.slice Ax x.2.length cx) from rfl)
      have v2 := (hs1.cell 0).trans (show _ = some (Value.int .i64 y.1) from rfl)
      have v3 := (hs1.cell 1).trans (show _ = some (Value.slice Ay y.2.length cy) from rfl)
      have hfin := (((hbel5.setCell (p := ⟨w.heap.size + 2, 0, none⟩) (by simp) (.int .i64 x.1)).setCell (p := ⟨w.heap.size + 2, 1, none⟩) (by simp) (.slice Ax x.2.length cx)).setCell (p := ⟨w.heap.size + 3, 0, none⟩) (by simp) (.int .i64 y.1)).setCell (p := ⟨w.heap.size + 3, 1, none⟩) (by simp) (.slice Ay y.2.length cy)
      go_wp2_with fail
      refine bodyPost_ret (v := .tuple #[.agg #[.int .i64 x.1, .slice Ax x.2.length cx], .agg #[.int .i64 y.1, .slice Ay y.2.length cy], .bool true]) (by simp [results, Try.results28, go_sem, v0, v1, v2, v3]) rfl ⟨hfin, .inr ⟨x, y, Ax, cx, Ay, cy, rfl, rfl, ?_, ?_, fun b off e => by have := hfx b off e; omega, fun b off e => by have := hfy b off e; omega⟩⟩
      · exact Rd.more (Rd.setCellF (Rd.setCellF (Rd.setCellF (Rd.setCellF hsx hfx (by show _ + 2 < _; omega) _) hfx (by show _ + 2 < _; omega) _) hfx (by show _ + 3 < _; omega) _) hfx (by show _ + 3 < _; omega) _) (by simp [World.setCell])
      · exact Rd.more (Rd.setCellF (Rd.setCellF (Rd.setCellF (Rd.setCellF hsy hfy (by show _ + 2 < _; omega) _) hfy (by show _ + 2 < _; omega) _) hfy (by show _ + 3 < _; omega) _) hfy (by show _ + 3 < _; omega) _) (by simp [World.setCell])
end Go.Proofs.Ytjmkcndjjfokiaa
