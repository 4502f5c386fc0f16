/- Paths of lists: package digest's PathOf. -/
import Derived.Test.YtjmkcndjjfokiaaProg
import Derived.Test.YtjmkcndjjfokiaaDig4
import Derived.Deep.RegionHeld3
import Derived.Deep.RegionLaw
namespace Go.Proofs.Ytjmkcndjjfokiaa
open Go.RowKit
set_option maxRecDepth 100000 in
set_option maxHeartbeats 2000000 in
theorem path_any (wd : Int) (at' : Nat) (l : List (List UInt8)) (A : Option Addr) (c B : Nat) (w : World) (h : Strs w B A l) (hB : B ≤ w.heap.size) (hl : l.length ≤ 65536) (hsh : Short l) (hc : l.length ≤ c) (hcm : c ≤ maxLen) (ha : at' < l.length) :
    Calls Try.prog 22 #[.int .i64 wd, .slice A l.length c, .int .i64 at'] w fun e w' => ∃ v, e = .returned (.tuple #[v, .int .i64 0]) ∧ IsPath w.heap.size w' v l.length at' (pathS wd l at') ∧ Below w.heap.size w w' := by
  have h0 : (at' : Int) < (l.length : Int) := by omega
  have h1 : ¬ (at' : Int) < 0 := by omega
  have hli : (l.length : Int) ≤ (c : Int) := by omega
  obtain ⟨b, off, rfl, _, _⟩ := Strs.at_ h (k := 0) (by omega)
  obtain ⟨i0, hi0, hz0, hz1, hz2⟩ := info_parts digInfo
  go_enter Try.func22, Try.ntmps22
  go_wp2
  go_loopw [1, 2] (fun x y wr => ∃ (lo hi f : Nat) (pre : List Int) (v : Value), x = .slice (some ⟨b, off + lo, none⟩) (hi - lo) (c - lo) ∧ y = .int .i64 ((at' - lo : Nat) : Int) ∧ lo ≤ at' ∧ at' < hi ∧ hi ≤ l.length ∧ hi - lo ≤ f ∧ pre.length + f ≤ l.length ∧ pre ++ pathF f wd ((l.take hi).drop lo) (at' - lo) = pathS wd l at' ∧ wr.ownsRow (w.heap.size + 2) 33 1 v pre.length (digs pre) ∧ Blk wr (w.heap.size + 1) 37 #[.int .i64 l.length, .int .i64 at', v] ∧ Blk wr w.heap.size 37 #[.int .i64 0, .int .i64 0, .slice none 0 0] ∧ Below w.heap.size w wr) (fun x y _ => (match x with | .slice _ n _ => n | _ => 0))
  case atStart =>
    refine ⟨0, l.length, l.length, [], .slice none 0 0, rfl, rfl, by omega, ha, Nat.le_refl _, by omega, by simp, by simp [pathS], World.ownsRow_nil _ _ _ _, ?_, ?_, ?_⟩
    · have hN := Blk.new (w.alloc (.cells #[.int .i64 0, .int .i64 0, .slice none 0 0] 37)) 37 #[.int .i64 l.length, .int .i64 at', .slice none 0 0]
      simpa using hN
    · first | exact (Blk.new _ _ _).alloc _ | (trace_state; done)
    · first | exact ((Below.refl _ _).alloc (Nat.le_refl _) _).alloc (by simp) _ | (trace_state; done)
  case round =>
    obtain ⟨lo, hi, f, pre, v, rfl, rfl, h2, h3, h4, h5, h6, h7, hown, hblk, hblk0, hb⟩ := hrel
    have hsz := hblk.lt
    have H7 := Lib.hid h7
    clear h7
    have hcl := mid_length l (lo := lo) h4
    by_cases hgo : 1 < hi - lo
    · have hhb := halfS_bd (hi - lo) (by omega)
      have hL := pathF_left f wd ((l.take hi).drop lo) (at' - lo) (by omega) (by omega)
      have hR := pathF_right f wd ((l.take hi).drop lo) (at' - lo) (by omega) (by omega)
      have hsp := half_any (hi - lo)
      rw [hcl, mid_drop, mid_take l lo hi _ (by omega)] at hL hR
      generalize hk : halfS (hi - lo) = k at *
      have hgi : (1 : Int) < ((hi - lo : Nat) : Int) := by omega
      have hc3 := (hblk.cell 2).trans (show _ = some v from rfl)
      go_wp2_with fail
      refine (hsp _ (by omega)).mono ?_
      rintro e w1 ⟨rfl, rfl⟩
      have hS1 := Rd.below h (hb.mono hB)
      have j0 : (0 : Int) ≤ (k : Int) := by omega
      have j1 : (k : Int) ≤ ((hi - lo : Nat) : Int) := by omega
      have j2 : (k : Int) ≤ ((c - lo : Nat) : Int) := by omega
      have j3 : ((hi - lo : Nat) : Int) ≤ ((c - lo : Nat) : Int) := by omega
      have j6 : ¬ c - lo = k := by omega
      by_cases hlt : at' - lo < k
      · have hlti : ((at' - lo : Nat) : Int) < (k : Int) := by omega
        have cS : Strs wr B (some ⟨b, off + lo + k, none⟩) ((l.take hi).drop (lo + k)) := by have := Strs.mid hS1 (lo := lo + k) (hi := hi) (by omega) h4; rwa [← Nat.add_assoc] at this
        have cN : True := trivial
        have HL := Lib.hid (hL hlt)
        clear hL hR
        have hd := aboveS_bd wd ((l.take hi).drop (lo + k))
        generalize hgd : aboveS wd ((l.take hi).drop (lo + k)) = d at *
        go_wp2_with fail
        have hownD : wr.drew.ownsRow (w.heap.size + 2) 33 1 v pre.length (digs pre) := hown
        have hblkD := hblk.drew
        have hblk0D := hblk0.drew
        have hbD := hb.drew
        have cD := Rd.drew cS
        have hcD : wr.drew.cell? ⟨w.heap.size + 1, 2, none⟩ = some v := hc3
        go_region_law (first
          | (go_simp
             go_at_call 85
             refine (aboveN wd ((l.take hi).drop (lo + k)) (hi - lo - k) _ (c - lo - k) B _ (by rw [mid_length l (by omega)]; omega) cD (Nat.le_trans hB hb.size) (by omega) (hsh.mid _ _) (by omega) (by omega)).mono ?_
             rintro e w2 ⟨rfl, hb2⟩
             rw [hgd]
             dsimp only
             have hown2 := own_below hownD hb2
             have hblk2 := hblkD.below hb2 hblkD.lt
             have hblk02 := hblk0D.below hb2 hblk0D.lt
             have hb02 := hbD.trans (hb2.mono hbD.size)
             have hs2 := hblk2.lt
             have q2 := (hblk2.cell 2).trans (show _ = some v from rfl)
             have q2a := fun o => hblk2.cell_a 2 v rfl o)
          | (refine step_append_any _ (by rfl) (.tmp 33) (.tmp 39) 35 (by rfl) (w.heap.size + 2) 33 i0 _ 1 8 Try.underlying35 hi0 hz0 hz1 hz2 rfl (by omega) v pre.length _ (by rfl) (by first | exact hown2.alloc _ | exact own_drewN (hown2.alloc _) 1) (w2.heap.size + 1) _ 1 1 [.int .u64 d] (by rfl) (by first | exact Rd.laid w2 #[.int .u64 d] 33 1 1 rfl | exact (Rd.laid w2 #[.int .u64 d] 33 1 1 rfl).drewN 1) (fun u hu => by simp at hu; subst hu; rfl) (by simp [maxLen]; omega) (by omega) (by simp; omega) ?_
             intro v3 w3 hown3 hg3 hat3
             obtain ⟨A3, n3, rfl⟩ := own_shape hown3
             have hblk3 := (hblk2.alloc _).grown hg3 (fun e => by have := own_ge hown2 _ e.symm; omega)
             have hblk03 := (hblk02.alloc _).grown hg3 (fun e => by have := own_ge hown2 _ e.symm; omega)
             have hb3 : Below w.heap.size w w3 := (hb02.alloc hb02.size _).grown hg3 (by simp; omega) (fun k hk => by have := own_ge hown2 k hk; omega)
             have f3 := hblk3.frozen 2
             have c3 := (hblk3.cell 2).trans (show _ = some v from rfl)))
        all_goals
          go_wp2_with fail
          go_roundw
          case rel =>
            refine ⟨lo, lo + k, f - 1, pre ++ [d], _, by rw [show lo + k - lo = k by omega], rfl, by omega, by omega, by omega, by omega, by simp; omega, ?_, ?_, (hblk3.set_ 2 _), hblk03.far (by simp) _, hb3.setCell (by simp) _⟩
            · rw [← H7.out, HL.out, List.append_assoc]; rfl
            · rw [digs_snoc, show (pre ++ [d]).length = pre.length + 1 by simp]
              exact ownsRow_setCell_below hown3 (a := ⟨w.heap.size + 1, 2, none⟩) (by simp) _
          case measure => simp; omega
      · have hlti : ¬ ((at' - lo : Nat) : Int) < (k : Int) := by omega
        have hwr : IntKind.i64.wrap (((at' - lo : Nat) : Int) - (k : Int)) = ((at' - (lo + k) : Nat) : Int) := by rw [IntWalk.i64_in _ (by omega)]; omega
        have cS : Strs wr B (some ⟨b, off + lo, none⟩) ((l.take (lo + k)).drop lo) := Strs.mid hS1 (by omega) (by omega)
        have cN : True := trivial
        have HL := Lib.hid (hR hlt)
        clear hL hR
        have hd := aboveS_bd wd ((l.take (lo + k)).drop lo)
        generalize hgd : aboveS wd ((l.take (lo + k)).drop lo) = d at *
        go_wp2_with fail
        have hownD : wr.drew.ownsRow (w.heap.size + 2) 33 1 v pre.length (digs pre) := hown
        have hblkD := hblk.drew
        have hblk0D := hblk0.drew
        have hbD := hb.drew
        have cD := Rd.drew cS
        have hcD : wr.drew.cell? ⟨w.heap.size + 1, 2, none⟩ = some v := hc3
        go_region_law (first
          | (go_simp
             go_at_call 85
             refine (aboveN wd ((l.take (lo + k)).drop lo) (k) _ (c - lo) B _ (by rw [mid_length l (by omega)]; omega) cD (Nat.le_trans hB hb.size) (by omega) (hsh.mid _ _) (by omega) (by omega)).mono ?_
             rintro e w2 ⟨rfl, hb2⟩
             rw [hgd]
             dsimp only
             have hown2 := own_below hownD hb2
             have hblk2 := hblkD.below hb2 hblkD.lt
             have hblk02 := hblk0D.below hb2 hblk0D.lt
             have hb02 := hbD.trans (hb2.mono hbD.size)
             have hs2 := hblk2.lt
             have q2 := (hblk2.cell 2).trans (show _ = some v from rfl)
             have q2a := fun o => hblk2.cell_a 2 v rfl o)
          | (refine step_append_any _ (by rfl) (.tmp 46) (.tmp 52) 35 (by rfl) (w.heap.size + 2) 33 i0 _ 1 8 Try.underlying35 hi0 hz0 hz1 hz2 rfl (by omega) v pre.length _ (by rfl) (by first | exact hown2.alloc _ | exact own_drewN (hown2.alloc _) 1) (w2.heap.size + 1) _ 1 1 [.int .u64 d] (by rfl) (by first | exact Rd.laid w2 #[.int .u64 d] 33 1 1 rfl | exact (Rd.laid w2 #[.int .u64 d] 33 1 1 rfl).drewN 1) (fun u hu => by simp at hu; subst hu; rfl) (by simp [maxLen]; omega) (by omega) (by simp; omega) ?_
             intro v3 w3 hown3 hg3 hat3
             obtain ⟨A3, n3, rfl⟩ := own_shape hown3
             have hblk3 := (hblk2.alloc _).grown hg3 (fun e => by have := own_ge hown2 _ e.symm; omega)
             have hblk03 := (hblk02.alloc _).grown hg3 (fun e => by have := own_ge hown2 _ e.symm; omega)
             have hb3 : Below w.heap.size w w3 := (hb02.alloc hb02.size _).grown hg3 (by simp; omega) (fun k hk => by have := own_ge hown2 k hk; omega)
             have f3 := hblk3.frozen 2
             have c3 := (hblk3.cell 2).trans (show _ = some v from rfl)))
        all_goals
          go_wp2_with fail
          go_roundw
          case rel =>
            refine ⟨lo + k, hi, f - 1, pre ++ [d], _, by rw [Nat.add_assoc, Nat.sub_sub, Nat.sub_sub], by first | rfl | (rw [hwr]; rfl), by omega, by omega, by omega, by omega, by simp; omega, ?_, ?_, (hblk3.set_ 2 _), hblk03.far (by simp) _, hb3.setCell (by simp) _⟩
            · rw [← H7.out, HL.out, List.append_assoc, show at' - (lo + k) = at' - lo - k by omega]; rfl
            · rw [digs_snoc, show (pre ++ [d]).length = pre.length + 1 by simp]
              exact ownsRow_setCell_below hown3 (a := ⟨w.heap.size + 1, 2, none⟩) (by simp) _
          case measure => simp; omega
    · have hp : pathS wd l at' = pre := by rw [← H7.out, pathF_end _ _ _ _ (by rw [hcl]; omega)]; simp
      have hgi : ¬ (1 : Int) < ((hi - lo : Nat) : Int) := by omega
      obtain ⟨A3, n3, rfl⟩ := own_shape hown
      have q0 := (hblk.cell 0).trans (show _ = some (.int .i64 (l.length : Int)) from rfl)
      have q1 := (hblk.cell 1).trans (show _ = some (.int .i64 (at' : Int)) from rfl)
      have q2 := (hblk.cell 2).trans (show _ = some (.slice A3 pre.length n3) from rfl)
      have z0 := (hblk0.cell 0).trans (show _ = some (.int .i64 0) from rfl)
      have z1 := (hblk0.cell 1).trans (show _ = some (.int .i64 0) from rfl)
      have z2 := (hblk0.cell 2).trans (show _ = some (.slice none 0 0) from rfl)
      have f0 := hblk0.frozen 0
      have f1 := hblk0.frozen 1
      have f2 := hblk0.frozen 2
      have hZ := ((hblk0.set_ 0 (.int .i64 (l.length : Int))).set_ 1 (.int .i64 (at' : Int))).set_ 2 (.slice A3 pre.length n3)
      have hO := ownsRow_setCell_below (ownsRow_setCell_below (ownsRow_setCell_below hown (a := ⟨w.heap.size, 0, none⟩) (by simp) (.int .i64 (l.length : Int))) (a := ⟨w.heap.size, 1, none⟩) (by simp) (.int .i64 (at' : Int))) (a := ⟨w.heap.size, 2, none⟩) (by simp) (.slice A3 pre.length n3)
      have hBB := ((hb.setCell (p := ⟨w.heap.size, 0, none⟩) (Nat.le_refl _) (.int .i64 (l.length : Int))).setCell (p := ⟨w.heap.size, 1, none⟩) (Nat.le_refl _) (.int .i64 (at' : Int))).setCell (p := ⟨w.heap.size, 2, none⟩) (Nat.le_refl _) (.slice A3 pre.length n3)
      have y0 := (hZ.cell 0).trans (show _ = some (.int .i64 (l.length : Int)) from rfl)
      have y1 := (hZ.cell 1).trans (show _ = some (.int .i64 (at' : Int)) from rfl)
      have y2 := (hZ.cell 2).trans (show _ = some (.slice A3 pre.length n3) from rfl)
      go_wp2
      refine bodyPost_ret (v := .tuple #[.agg #[.int .i64 l.length, .int .i64 at', .slice A3 pre.length n3], .int .i64 0]) (by simp [results, Try.results22, go_sem, y0, y1, y2]) rfl ⟨_, rfl, ?_, hBB⟩
      exact ⟨A3, n3, rfl, Rd.of_own hO, fun b' o' e' => by have := own_from hO b' o' e'; omega⟩
end Go.Proofs.Ytjmkcndjjfokiaa
