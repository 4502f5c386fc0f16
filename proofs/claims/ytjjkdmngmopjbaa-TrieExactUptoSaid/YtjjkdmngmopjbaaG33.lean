/- Of the texts Clash3, Clash4, Clash5, Clash6. -/
import Derived.Test.YtjjkdmngmopjbaaProg
import Derived.Test.YtjjkdmngmopjbaaG32
import Derived.RegionTactic
import Derived.BigRegion
import Derived.Deep.RegionHeld3
namespace Go.Proofs.Ytjjkdmngmopjbaa
open Go.RowKit
/-- a row of images that is read -/
def ImgR (w : World) (lo B : Nat) (A : Option Addr) (l : List ImgP) : Prop :=
  ∀ k (hk : k < l.length), ∃ b off A' c, A = some ⟨b, off, none⟩ ∧ b < B ∧ w.cell? ⟨b, off + k * 2, none⟩ = some (.int .i64 l[k].1) ∧ w.cell? ⟨b, off + k * 2 + 1, none⟩ = some (.slice A' l[k].2.length c) ∧ Strs w B A' l[k].2 ∧ From lo A'
theorem ImgR.below {w w' : World} {lo B : Nat} {A : Option Addr} {l : List ImgP} (h : ImgR w lo B A l) (hb : Below B w w') : ImgR w' lo B A l := fun k hk => by
  obtain ⟨b, off, A', c, e, h1, h2, h3, h4, h5⟩ := h k hk
  exact ⟨b, off, A', c, e, h1, (hb.cell (p := ⟨b, off + k * 2, none⟩) h1).trans h2, (hb.cell (p := ⟨b, off + k * 2 + 1, none⟩) h1).trans h3, Rd.below h4 hb, h5⟩
theorem ImgR.of {w : World} {base base' : Nat} {e : TypeId} {A : Option Addr} {n c : Nat} {xs : List Value} {l : List ImgP} (ho : w.ownsRow base' e 2 (.slice A n c) n xs) (h : Imgs base w (Value.slice A n c).ownBlock xs l) : ImgR w base w.heap.size A l := fun k hk => by
  have hr := Rd.of_own ho
  have hlen := h.len
  have h1 := ho.1
  obtain ⟨A', c', x0, x1, hs, hf⟩ := h.at_ k hk
  obtain ⟨b, off, e, hb, hc⟩ := hr.2 (by omega)
  exact ⟨b, off, A', c', e, hb, hc _ _ x0, by rw [Nat.add_assoc]; exact hc _ _ x1, hs, hf⟩
theorem rev_drop {α : Type} (l : List α) (k : Nat) (hk : k < l.length) : l.reverse.drop k = l[l.length - 1 - k]'(by omega) :: l.reverse.drop (k + 1) := by
  rw [List.drop_eq_getElem_cons (by simpa using hk), List.getElem_reverse]
def ClashAns (w : World) (lo : Nat) (o : Option (ImgP × ImgP)) (e : Ending) (w' : World) : Prop :=
  Below w.heap.size w w' ∧ ((o = none ∧ e = .returned (.tuple #[.agg #[.int .i64 0, .slice none 0 0], .agg #[.int .i64 0, .slice none 0 0], .bool false])) ∨
    ∃ x y A c A' c', o = some (x, y) ∧ e = .returned (.tuple #[.agg #[.int .i64 x.1, .slice A x.2.length c], .agg #[.int .i64 y.1, .slice A' y.2.length c'], .bool true]) ∧ Strs w' w'.heap.size A x.2 ∧ Strs w' w'.heap.size A' y.2 ∧ From lo A ∧ From lo A')
set_option maxRecDepth 100000 in
set_option maxHeartbeats 2000000 in
theorem runlike_any (l m : List ImgP) (A A' : Option Addr) (c c' lo B : Nat) (w : World) (h : ImgR w lo B A l) (h' : ImgR w lo B A' m) (hB : B ≤ w.heap.size) (hl : l.length ≤ 1099511627780) (hm : m.length ≤ 1099511627780) (hls : ∀ x ∈ l, x.2.length ≤ maxLen) (hms : ∀ x ∈ m, x.2.length ≤ maxLen) :
    Calls Try.prog 88 #[.slice A l.length c, .slice A' m.length c'] w (ClashAns w lo (unl l.reverse m.reverse)) := by
  have hR1 : Blk ((w.alloc (.cells #[.int .i64 0, .slice none 0 0] 106)).alloc (.cells #[.int .i64 0, .slice none 0 0] 106)) (w.heap.size + 1) 106 #[.int .i64 0, .slice none 0 0] := by
    have hN := Blk.new (w.alloc (.cells #[.int .i64 0, .slice none 0 0] 106)) 106 #[.int .i64 0, .slice none 0 0]
    simpa using hN
  go_enter Try.func88, Try.ntmps88
  go_wp2_with fail
  go_loopw [7] (fun i wr => ∃ k : Nat, i = .int .i64 ((k : Int) + 1) ∧ k ≤ l.length ∧ unl (l.reverse.drop k) (m.reverse.drop k) = unl l.reverse m.reverse ∧ Blk wr w.heap.size 106 #[.int .i64 0, .slice none 0 0] ∧ Blk wr (w.heap.size + 1) 106 #[.int .i64 0, .slice none 0 0] ∧ Below w.heap.size w wr) (fun i _ => (l.length + 1 - (intOf i)).toNat)
  case atStart => exact ⟨0, by go_num, by omega, rfl, (Blk.new _ _ _).alloc _, hR1, ((Below.refl _ _).alloc (Nat.le_refl _) _).alloc (by simp) _⟩
  case round =>
    obtain ⟨k, rfl, hk, hu, hr0, hr1, hb⟩ := hrel
    clear hR1
    generalize unl l.reverse m.reverse = o at *
    have z0 := (hr0.cell 0).trans (show _ = some (Value.int .i64 0) from rfl)
    have z1 := (hr0.cell 1).trans (show _ = some (Value.slice none 0 0) from rfl)
    have y0 := (hr1.cell 0).trans (show _ = some (Value.int .i64 0) from rfl)
    have y1 := (hr1.cell 1).trans (show _ = some (Value.slice none 0 0) from rfl)
    have f0 := hr0.frozen 0
    have f1 := hr0.frozen 1
    have g0 := hr1.frozen 0
    have g1 := hr1.frozen 1
    have HU := Lib.hid hu
    clear hu
    have hend : (¬ k < l.length ∨ ¬ k < m.length) → Hid (o = none) := fun hh => by
      have := HU.out
      show _ = _
      rw [← this]
      rcases hh with hh | hh
      · rw [List.drop_eq_nil_of_le (by simpa using hh)]; cases (m.reverse.drop k) <;> rfl
      · rw [show m.reverse.drop k = [] from List.drop_eq_nil_of_le (by simpa using hh)]; cases (l.reverse.drop k) <;> rfl
    by_cases h1 : k < l.length
    · have h1i : (k : Int) + 1 ≤ (l.length : Int) := by omega
      by_cases h2 : k < m.length
      · have h2i : (k : Int) + 1 ≤ (m.length : Int) := by omega
        clear hend
        obtain ⟨b, off, Ax, cx, rfl, hbB, kx0, kx1, hsx, hfx⟩ := (h.below (hb.mono hB)) (l.length - 1 - k) (by omega)
        obtain ⟨b', off', Ay, cy, rfl, hbB', ky0, ky1, hsy, hfy⟩ := (h'.below (hb.mono hB)) (m.length - 1 - k) (by omega)
        have HX := Lib.hid (rev_drop l k h1)
        have HY := Lib.hid (rev_drop m k h2)
        have hxl := hls _ (List.getElem_mem (by omega : l.length - 1 - k < l.length))
        have hyl := hms _ (List.getElem_mem (by omega : m.length - 1 - k < m.length))
        generalize l[l.length - 1 - k] = x at *
        generalize m[m.length - 1 - k] = y at *
        have hw1 : IntKind.i64.wrap ((l.length : Int) - ((k : Int) + 1)) = ((l.length - 1 - k : Nat) : Int) := by rw [IntWalk.i64_in _ (by omega)]; omega
        have hw2 : IntKind.i64.wrap ((m.length : Int) - ((k : Int) + 1)) = ((m.length - 1 - k : Nat) : Int) := by rw [IntWalk.i64_in _ (by omega)]; omega
        have hsz := hb.size
        have jy0 : (wr.alloc (.cells #[.int .i64 x.1, .slice Ax x.2.length cx] 106)).cell? ⟨b', off' + (m.length - 1 - k) * 2, none⟩ = some (.int .i64 y.1) := (World.cell?_alloc_lt wr _ _ (by show b' < _; omega)).trans ky0
        have jy1 : (wr.alloc (.cells #[.int .i64 x.1, .slice Ax x.2.length cx] 106)).cell? ⟨b', off' + (m.length - 1 - k) * 2 + 1, none⟩ = some (.slice Ay y.2.length cy) := (World.cell?_alloc_lt wr _ _ (by show b' < _; omega)).trans ky1
        have hbelW : Below wr.heap.size wr ((wr.alloc (.cells #[.int .i64 x.1, .slice Ax x.2.length cx] 106)).alloc (.cells #[.int .i64 y.1, .slice Ay y.2.length cy] 106)) := ((Below.refl _ _).alloc (Nat.le_refl _) _).alloc (by simp) _
        have hq0 : Blk ((wr.alloc (.cells #[.int .i64 x.1, .slice Ax x.2.length cx] 106)).alloc (.cells #[.int .i64 y.1, .slice Ay y.2.length cy] 106)) wr.heap.size 106 #[.int .i64 x.1, .slice Ax x.2.length cx] := (Blk.new _ _ _).alloc _
        have hq1 : Blk ((wr.alloc (.cells #[.int .i64 x.1, .slice Ax x.2.length cx] 106)).alloc (.cells #[.int .i64 y.1, .slice Ay y.2.length cy] 106)) (wr.heap.size + 1) 106 #[.int .i64 y.1, .slice Ay y.2.length cy] := by
          have hN := Blk.new (wr.alloc (.cells #[.int .i64 x.1, .slice Ax x.2.length cx] 106)) 106 #[.int .i64 y.1, .slice Ay y.2.length cy]
          simpa using hN
        have hr0W := hr0.below hbelW hr0.lt
        have hr1W := hr1.below hbelW hr1.lt
        have hsx' := Rd.below (Rd.more hsx (Nat.le_trans hB hsz)) hbelW
        have hsy' := Rd.below (Rd.more hsy (Nat.le_trans hB hsz)) hbelW
        have hsame := sameImage_any x y Ax Ay cx cy _ _ _ hsx' hsy' hbelW.size hbelW.size hxl hyl
        have hbW := hb.trans (hbelW.mono hsz)
        go_wp2_with fail
        refine hsame.mono ?_
        rintro e w3 ⟨rfl, hb3⟩
        have hq03 := hq0.below hb3 hq0.lt
        have hq13 := hq1.below hb3 hq1.lt
        have hr03 := hr0W.below hb3 hr0W.lt
        have hr13 := hr1W.below hb3 hr1W.lt
        have hbel3 := hbW.trans (hb3.mono hbW.size)
        have hBG := Nat.le_trans hB hsz
        have hsx3 := Rd.below (Rd.below hsx (hbelW.mono hBG)) (hb3.mono (Nat.le_trans hBG hbelW.size))
        have hsy3 := Rd.below (Rd.below hsy (hbelW.mono hBG)) (hb3.mono (Nat.le_trans hBG hbelW.size))
        have hz3 := Nat.le_trans hbelW.size hb3.size
        have hlt1 := hr1.lt
        clear hq0 hq1 hr0W hr1W hbW hb3 hsame hbelW hsx' hsy' hsx hsy z0 z1 y0 y1 f0 f1 g0 g1 hr0 hr1 jy0 jy1 kx0 kx1 ky0 ky1
        generalize hG : wr.heap.size = G at *
        have hGH := Lib.hid hG
        clear hG
        cases hsm : sameI x y
        · have q00 := (hq03.cell 0).trans (show _ = some (Value.int .i64 x.1) from rfl)
          have q01 := (hq03.cell 1).trans (show _ = some (Value.slice Ax x.2.length cx) from rfl)
          have q10 := (hq13.cell 0).trans (show _ = some (Value.int .i64 y.1) from rfl)
          have q11 := (hq13.cell 1).trans (show _ = some (Value.slice Ay y.2.length cy) from rfl)
          have z0 := (hr03.cell 0).trans (show _ = some (Value.int .i64 0) from rfl)
          have z1 := (hr03.cell 1).trans (show _ = some (Value.slice none 0 0) from rfl)
          have y0 := (hr13.cell 0).trans (show _ = some (Value.int .i64 0) from rfl)
          have y1 := (hr13.cell 1).trans (show _ = some (Value.slice none 0 0) from rfl)
          have f0 := hr03.frozen 0
          have f1 := hr03.frozen 1
          have g0 := hr13.frozen 0
          have g1 := hr13.frozen 1
          have n1 : ¬ w.heap.size = G := by omega
          go_wp2_with fail
          go_region
          all_goals
            have hs0 := (((hr03.set_ 0 (.int .i64 x.1)).set_ 1 (.slice Ax x.2.length cx)).far (p := ⟨w.heap.size + 1, 0, none⟩) (by simp) (.int .i64 y.1) |>.far (p := ⟨w.heap.size + 1, 1, none⟩) (by simp) (.slice Ay y.2.length cy)).drew
            have hs1 := ((((hr13.far (p := ⟨w.heap.size, 0, none⟩) (by simp) (.int .i64 x.1)).far (p := ⟨w.heap.size, 1, none⟩) (by simp) (.slice Ax x.2.length cx)).set_ 0 (.int .i64 y.1)).set_ 1 (.slice Ay y.2.length cy)).drew
            have v0 := (hs0.cell 0).trans (show _ = some (Value.int .i64 x.1) from rfl)
            have v1 := (hs0.cell 1).trans (show _ = some (Value.slice Ax x.2.length cx) from rfl)
            have v2 := (hs1.cell 0).trans (show _ = some (Value.int .i64 y.1) from rfl)
            have v3 := (hs1.cell 1).trans (show _ = some (Value.slice Ay y.2.length cy) from rfl)
            go_wp2_with fail
            refine bodyPost_ret (v := .tuple #[.agg #[.int .i64 x.1, .slice Ax x.2.length cx], .agg #[.int .i64 y.1, .slice Ay y.2.length cy], .bool true]) (by simp [results, Try.results88, go_sem, v0, v1, v2, v3]) rfl ⟨?_, .inr ⟨x, y, Ax, cx, Ay, cy, ?_, rfl, ?_, ?_, hfx, hfy⟩⟩
            · exact ((((hbel3.setCell (Nat.le_refl _) _).setCell (Nat.le_refl _) _).setCell (by simp) _).setCell (by simp) _).drew
            · have := HU.out
              rw [HX.out, HY.out, unl, hsm] at this
              exact this.symm
            · exact Rd.drew (Rd.more (Rd.setCell (Rd.setCell (Rd.setCell (Rd.setCell hsx3 hB _) hB _) (Nat.le_succ_of_le hB) _) (Nat.le_succ_of_le hB) _) (by simp [World.setCell]; omega))
            · exact Rd.drew (Rd.more (Rd.setCell (Rd.setCell (Rd.setCell (Rd.setCell hsy3 hB _) hB _) (Nat.le_succ_of_le hB) _) (Nat.le_succ_of_le hB) _) (by simp [World.setCell]; omega))
        · go_wp2_with fail
          go_roundw
          case rel =>
            refine ⟨k + 1, by go_num, by omega, ?_, hr03, hr13, hbel3⟩
            have := HU.out
            rw [HX.out, HY.out, unl, hsm] at this
            exact this
          case measure => simp [intOf]; omega
      · have h2i : ¬ (k : Int) + 1 ≤ (m.length : Int) := by omega
        have HE := hend (.inr h2)
        clear hend
        have hs0 := ((hr0.set_ 0 (.int .i64 0)).set_ 1 (.slice none 0 0)).far (p := ⟨w.heap.size + 1, 0, none⟩) (by simp) (.int .i64 0) |>.far (p := ⟨w.heap.size + 1, 1, none⟩) (by simp) (.slice none 0 0)
        have hs1 := ((((hr1.far (p := ⟨w.heap.size, 0, none⟩) (by simp) (.int .i64 0)).far (p := ⟨w.heap.size, 1, none⟩) (by simp) (.slice none 0 0)).set_ 0 (.int .i64 0)).set_ 1 (.slice none 0 0))
        have v0 := (hs0.cell 0).trans (show _ = some (Value.int .i64 0) from rfl)
        have v1 := (hs0.cell 1).trans (show _ = some (Value.slice none 0 0) from rfl)
        have v2 := (hs1.cell 0).trans (show _ = some (Value.int .i64 0) from rfl)
        have v3 := (hs1.cell 1).trans (show _ = some (Value.slice none 0 0) from rfl)
        go_wp2_with fail
        refine bodyPost_ret (v := .tuple #[.agg #[.int .i64 0, .slice none 0 0], .agg #[.int .i64 0, .slice none 0 0], .bool false]) (by simp [results, Try.results88, go_sem, v0, v1, v2, v3]) rfl ⟨?_, .inl ⟨HE.out, rfl⟩⟩
        exact (((hb.setCell (Nat.le_refl _) _).setCell (Nat.le_refl _) _).setCell (by simp) _).setCell (by simp) _
    · have h1i : ¬ (k : Int) + 1 ≤ (l.length : Int) := by omega
      have HE := hend (.inl h1)
      clear hend
      have hs0 := ((hr0.set_ 0 (.int .i64 0)).set_ 1 (.slice none 0 0)).far (p := ⟨w.heap.size + 1, 0, none⟩) (by simp) (.int .i64 0) |>.far (p := ⟨w.heap.size + 1, 1, none⟩) (by simp) (.slice none 0 0)
      have hs1 := ((((hr1.far (p := ⟨w.heap.size, 0, none⟩) (by simp) (.int .i64 0)).far (p := ⟨w.heap.size, 1, none⟩) (by simp) (.slice none 0 0)).set_ 0 (.int .i64 0)).set_ 1 (.slice none 0 0))
      have v0 := (hs0.cell 0).trans (show _ = some (Value.int .i64 0) from rfl)
      have v1 := (hs0.cell 1).trans (show _ = some (Value.slice none 0 0) from rfl)
      have v2 := (hs1.cell 0).trans (show _ = some (Value.int .i64 0) from rfl)
      have v3 := (hs1.cell 1).trans (show _ = some (Value.slice none 0 0) from rfl)
      go_wp2_with fail
      refine bodyPost_ret (v := .tuple #[.agg #[.int .i64 0, .slice none 0 0], .agg #[.int .i64 0, .slice none 0 0], .bool false]) (by simp [results, Try.results88, go_sem, v0, v1, v2, v3]) rfl ⟨?_, .inl ⟨HE.out, rfl⟩⟩
      exact (((hb.setCell (Nat.le_refl _) _).setCell (Nat.le_refl _) _).setCell (by simp) _).setCell (by simp) _
end Go.Proofs.Ytjjkdmngmopjbaa

namespace Go.Proofs.Ytjjkdmngmopjbaa
open Go.RowKit
theorem ImgR.more {w : World} {lo lo' B B' : Nat} {A : Option Addr} {l : List ImgP} (h : ImgR w lo B A l) (hb : B ≤ B') (hl : lo' ≤ lo) : ImgR w lo' B' A l := fun k hk => by
  obtain ⟨b, off, A', c, e, h1, h2, h3, h4, h5⟩ := h k hk
  exact ⟨b, off, A', c, e, by omega, h2, h3, Rd.more h4 hb, fun b off e => Nat.le_trans hl (h5 b off e)⟩
/-- what is told of two paths -/
def clashS (wd R : Int) (s : List UInt8) (n a : Int) (ds : List Int) (t : List UInt8) (n' a' : Int) (ds' : List Int) : Option (ImgP × ImgP) :=
  if s = t ∨ a ≠ a' ∨ holdsS wd R s n a ds = false ∨ holdsS wd R t n' a' ds' = false then none else unl (imgsS wd s n (wayS n a) ds).reverse (imgsS wd t n' (wayS n' a') ds').reverse
theorem imgsS_len {wd : Int} {s : List UInt8} {n a : Int} {ds : List Int} (h : okP n a ds = true) : (imgsS wd s n (wayS n a) ds).length = ds.length + 2 := by
  have := clims_full wd (ofS wd 0 [s]) (wayS n a) ds (okP_true h).2.2.2
  simp [imgsS, this]
theorem clims_two (w d : Int) : ∀ (ways : List Bool) (ds : List Int), ∀ x ∈ clims w d ways ds, x.2.length = 2
  | [], _, x, hx => by simp [clims] at hx
  | _ :: _, [], x, hx => by simp [clims] at hx
  | r :: ways, s :: ds, x, hx => by
    simp only [clims, List.mem_append, List.mem_singleton] at hx
    rcases hx with hx | rfl
    · exact clims_two w d ways ds x hx
    · exact pairS_len _ _ _
theorem imgsS_two (wd : Int) (s : List UInt8) (n : Int) (ways : List Bool) (ds : List Int) : ∀ x ∈ imgsS wd s n ways ds, x.2.length ≤ maxLen := fun x hx => by
  have : x.2.length ≤ 2 := by
    simp only [imgsS, List.mem_append, List.mem_cons, List.not_mem_nil, or_false] at hx
    rcases hx with (rfl | hx) | rfl
    · simp
    · have := clims_two _ _ _ _ x hx; omega
    · simp
  simp [maxLen]; omega
/-- the images, as they are read -/
theorem ImgsAns.get {w w' : World} {wd : Int} {s : List UInt8} {n a : Int} {ds : List Int} {e : Ending} (h : ImgsAns w wd s n a ds e w') (hk : okP n a ds = true) :
    ∃ A c, e = .returned (.tuple #[.slice A (imgsS wd s n (wayS n a) ds).length c, .bool true]) ∧ ImgR w' w.heap.size w'.heap.size A (imgsS wd s n (wayS n a) ds) ∧ Below w.heap.size w w' := by
  obtain ⟨v, xs, rfl, hown, himg, hb⟩ := h.1 hk
  obtain ⟨A, c, rfl⟩ := own_shape hown
  have hl := imgsS_len (wd := wd) (s := s) hk
  exact ⟨A, c, by rw [hl], ImgR.of hown himg, hb⟩
/-- a world with four blocks of one's own on top -/
theorem four_blks (w : World) (t0 t1 t2 t3 : TypeId) (c0 c1 c2 c3 : Array Value) : ∃ W, ((((w.alloc (.cells c0 t0)).alloc (.cells c1 t1)).alloc (.cells c2 t2)).alloc (.cells c3 t3)) = W ∧ W.heap.size = w.heap.size + 4 ∧ Below w.heap.size w W ∧ Blk W w.heap.size t0 c0 ∧ Blk W (w.heap.size + 1) t1 c1 ∧ Blk W (w.heap.size + 2) t2 c2 ∧ Blk W (w.heap.size + 3) t3 c3 := by
  refine ⟨_, rfl, by simp, ((((Below.refl _ _).alloc (Nat.le_refl _) _).alloc (by simp) _).alloc (by simp; omega) _).alloc (by simp; omega) _, ?_, ?_, ?_, ?_⟩
  · exact (((Blk.new w t0 c0).alloc _).alloc _).alloc _
  · have := (((Blk.new (w.alloc (.cells c0 t0)) t1 c1).alloc (.cells c2 t2)).alloc (.cells c3 t3)); simpa using this
  · have := ((Blk.new ((w.alloc (.cells c0 t0)).alloc (.cells c1 t1)) t2 c2).alloc (.cells c3 t3)); simpa using this
  · have := Blk.new (((w.alloc (.cells c0 t0)).alloc (.cells c1 t1)).alloc (.cells c2 t2)) t3 c3; simpa using this
end Go.Proofs.Ytjjkdmngmopjbaa

namespace Go.Proofs.Ytjjkdmngmopjbaa
open Go.RowKit
theorem unl_mem : ∀ (l m : List ImgP) (x y : ImgP), unl l m = some (x, y) → x ∈ l ∧ y ∈ m
  | [], _, _, _, h => by simp [unl] at h
  | _ :: _, [], _, _, h => by simp [unl] at h
  | a :: r, b :: s, x, y, h => by
    rw [unl] at h
    split at h
    · obtain ⟨h1, h2⟩ := unl_mem r s x y h
      exact ⟨List.mem_cons_of_mem _ h1, List.mem_cons_of_mem _ h2⟩
    · simp only [Option.some.injEq, Prod.mk.injEq] at h
      obtain ⟨rfl, rfl⟩ := h
      exact ⟨by simp, by simp⟩
theorem clims_short (w d : Int) : ∀ (ways : List Bool) (ds : List Int), ∀ x ∈ clims w d ways ds, Short x.2
  | [], _, x, hx => by simp [clims] at hx
  | _ :: _, [], x, hx => by simp [clims] at hx
  | r :: ways, s :: ds, x, hx => by
    simp only [clims, List.mem_append, List.mem_singleton] at hx
    rcases hx with hx | rfl
    · exact clims_short w d ways ds x hx
    · unfold pairS
      split <;> exact be2_short _ _
theorem imgsS_short (wd : Int) (s : List UInt8) (hs : s.length ≤ maxLen) (n : Int) (ways : List Bool) (ds : List Int) : ∀ x ∈ imgsS wd s n ways ds, Short x.2 := fun x hx => by
  simp only [imgsS, List.mem_append, List.mem_cons, List.not_mem_nil, or_false] at hx
  rcases hx with (rfl | hx) | rfl
  · intro p hp
    simp at hp
    rw [hp]
    exact hs
  · exact clims_short _ _ _ _ x hx
  · exact two_short _ _
/-- what is told: none, or two unlike images of one digest -/
def TellS (wd : Int) (o : Option (ImgP × ImgP)) (f : Bool) : Prop := (o = none ∧ f = false) ∨ ∃ x y, o = some (x, y) ∧ f = true ∧ ofS wd x.1 x.2 = ofS wd y.1 y.2 ∧ sameI x y = false ∧ x.2.length ≤ maxLen ∧ y.2.length ≤ maxLen ∧ Short x.2 ∧ Short y.2
theorem clash_tell (wd R : Int) (s t : List UInt8) (hs : s.length ≤ maxLen) (ht : t.length ≤ maxLen) (n a n' a' : Int) (ds ds' : List Int) (h : holdsS wd R s n a ds = true) :
    TellS wd (clashS wd R s n a ds t n' a' ds') (holdsS wd R t n' a' ds' && decide (t ≠ s) && decide (a' = a)) := by
  unfold TellS clashS
  by_cases hc : s = t ∨ a ≠ a' ∨ holdsS wd R s n a ds = false ∨ holdsS wd R t n' a' ds' = false
  · rw [if_pos hc]
    refine .inl ⟨rfl, ?_⟩
    rcases hc with rfl | hc | hc | hc
    · simp
    · have : ¬ a' = a := fun e => hc e.symm
      simp [this]
    · rw [h] at hc; cases hc
    · simp [hc]
  · rw [if_neg hc]
    simp only [not_or, Bool.not_eq_false, ne_eq, Decidable.not_not] at hc
    obtain ⟨h1, rfl, _, h3⟩ := hc
    obtain ⟨x, y, e1, e2, e3⟩ := clash_ex wd R s t n n' a ds ds' h1 h h3
    obtain ⟨m1, m2⟩ := unl_mem _ _ _ _ e1
    rw [List.mem_reverse] at m1 m2
    refine .inr ⟨x, y, e1, ?_, e2, e3, imgsS_two _ _ _ _ _ x m1, imgsS_two _ _ _ _ _ y m2, imgsS_short _ _ hs _ _ _ x m1, imgsS_short _ _ ht _ _ _ y m2⟩
    have : ¬ t = s := fun e => h1 e.symm
    simp [h3, this]
end Go.Proofs.Ytjjkdmngmopjbaa

namespace Go.Proofs.Ytjjkdmngmopjbaa
open Go.RowKit
theorem unl_end {l m : List ImgP} {k : Nat} (h : k < l.length → ¬ k < m.length) : unl (l.reverse.drop k) (m.reverse.drop k) = none := by
  by_cases h1 : k < l.length
  · rw [show m.reverse.drop k = [] from List.drop_eq_nil_of_le (by simpa using h h1)]; cases (l.reverse.drop k) <;> rfl
  · rw [show l.reverse.drop k = [] from List.drop_eq_nil_of_le (by simpa using h1)]; cases (m.reverse.drop k) <;> rfl
end Go.Proofs.Ytjjkdmngmopjbaa
