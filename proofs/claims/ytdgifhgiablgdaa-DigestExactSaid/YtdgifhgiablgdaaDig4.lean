/- Paths of lists: what package digest's and the reference's PathOf compute. -/
import Derived.Test.YtdgifhgiablgdaaProg
import Derived.Test.YtdgifhgiablgdaaDig3
import Derived.Test.YtdgifhgiablgdaaApp
namespace Go.Proofs.Ytdgifhgiablgdaa
open Go.RowKit
def pathF : Nat → Int → List (List UInt8) → Nat → List Int
  | 0, _, _, _ => []
  | f + 1, w, l, at' => if l.length < 2 then [] else
    if at' < halfS l.length then aboveS w (l.drop (halfS l.length)) :: pathF f w (l.take (halfS l.length)) at'
    else aboveS w (l.take (halfS l.length)) :: pathF f w (l.drop (halfS l.length)) (at' - halfS l.length)
theorem pathF_end (f : Nat) (w : Int) (l : List (List UInt8)) (a : Nat) (h : l.length < 2) : pathF f w l a = [] := by
  cases f with
  | zero => rfl
  | succ f => simp [pathF, h]
theorem pathF_left (f : Nat) (w : Int) (l : List (List UInt8)) (a : Nat) (hf : l.length ≤ f) (h : 2 ≤ l.length) (ha : a < halfS l.length) :
    pathF f w l a = aboveS w (l.drop (halfS l.length)) :: pathF (f - 1) w (l.take (halfS l.length)) a := by
  cases f with
  | zero => omega
  | succ f => rw [pathF, if_neg (by omega), if_pos ha]; rfl
theorem pathF_right (f : Nat) (w : Int) (l : List (List UInt8)) (a : Nat) (hf : l.length ≤ f) (h : 2 ≤ l.length) (ha : ¬ a < halfS l.length) :
    pathF f w l a = aboveS w (l.take (halfS l.length)) :: pathF (f - 1) w (l.drop (halfS l.length)) (a - halfS l.length) := by
  cases f with
  | zero => omega
  | succ f => rw [pathF, if_neg (by omega), if_neg ha]; rfl
theorem pathF_bd : ∀ (f : Nat) (w : Int) (l : List (List UInt8)) (a : Nat), (pathF f w l a).length ≤ f ∧ ∀ d ∈ pathF f w l a, 0 ≤ d ∧ d < 18446744073709551616
  | 0, w, l, a => ⟨by simp [pathF], fun d hd => by simp [pathF] at hd⟩
  | f + 1, w, l, a => by
    have i1 := pathF_bd f w (l.take (halfS l.length)) a
    have i2 := pathF_bd f w (l.drop (halfS l.length)) (a - halfS l.length)
    rw [pathF]
    by_cases h : l.length < 2
    · rw [if_pos h]; simp
    · rw [if_neg h]
      by_cases h2 : a < halfS l.length
      · rw [if_pos h2]
        refine ⟨by simp; omega, fun d hd => ?_⟩
        rcases List.mem_cons.1 hd with rfl | hd
        · exact aboveS_bd _ _
        · exact i1.2 d hd
      · rw [if_neg h2]
        refine ⟨by simp; omega, fun d hd => ?_⟩
        rcases List.mem_cons.1 hd with rfl | hd
        · exact aboveS_bd _ _
        · exact i2.2 d hd
def pathS (w : Int) (l : List (List UInt8)) (a : Nat) : List Int := pathF l.length w l a
def digs (l : List Int) : List Value := l.map fun d => .int .u64 d
/-- a path: two numbers, and sides that lie in memory -/
def IsPath (base : Nat) (w : World) (v : Value) (n a : Int) (ds : List Int) : Prop := ∃ A c, v = .agg #[.int .i64 n, .int .i64 a, .slice A ds.length c] ∧ Rd w w.heap.size 1 A ds.length (digs ds) ∧ From base A
theorem own_from {w : World} {base : Nat} {e : TypeId} {size n c : Nat} {A : Option Addr} {xs : List Value} (h : w.ownsRow base e size (.slice A n c) n xs) : From base A := by
  rcases h.2 with ⟨e, h0⟩ | ⟨g, cap, cur, e, hg, _⟩
  · simp only [Value.slice.injEq] at e
    rw [e.1]; exact from_none _
  · simp only [Value.slice.injEq] at e
    rw [e.1]; exact from_some hg
set_option maxRecDepth 100000 in
theorem rpath_bad (wd at' : Int) (l : List (List UInt8)) (A : Option Addr) (c : Nat) (w : World) (hl : l.length ≤ 65536) (ha : at' < 0 ∨ (l.length : Int) ≤ at') :
    Calls Try.prog 39 #[.int .i64 wd, .slice A l.length c, .int .i64 at'] w fun e w' => e = .returned (.tuple #[.agg #[.int .i64 0, .int .i64 0, .slice none 0 0], .int .i64 30]) ∧ Below w.heap.size w w' := by
  have hZ := Blk.new w 58 #[.int .i64 0, .int .i64 0, .slice none 0 0]
  have q0 := (hZ.cell 0).trans (show _ = some (.int .i64 0) from rfl)
  have q1 := (hZ.cell 1).trans (show _ = some (.int .i64 0) from rfl)
  have q2 := (hZ.cell 2).trans (show _ = some (.slice none 0 0) from rfl)
  by_cases h0 : at' < 0
  · go_enter Try.func39, Try.ntmps39
    go_wp2
    exact bodyPost_ret (v := .tuple #[.agg #[.int .i64 0, .int .i64 0, .slice none 0 0], .int .i64 30]) (by simp [results, Try.results39, go_sem, q0, q1, q2]) rfl ⟨rfl, (Below.refl _ _).alloc (Nat.le_refl _) _⟩
  · have ha' : (l.length : Int) ≤ at' := by omega
    go_enter Try.func39, Try.ntmps39
    go_wp2
    exact bodyPost_ret (v := .tuple #[.agg #[.int .i64 0, .int .i64 0, .slice none 0 0], .int .i64 30]) (by simp [results, Try.results39, go_sem, q0, q1, q2]) rfl ⟨rfl, (Below.refl _ _).alloc (Nat.le_refl _) _⟩
set_option maxRecDepth 100000 in
theorem path_bad (wd at' : Int) (l : List (List UInt8)) (A : Option Addr) (c : Nat) (w : World) (hl : l.length ≤ 65536) (ha : at' < 0 ∨ (l.length : Int) ≤ at') :
    Calls Try.prog 38 #[.int .i64 wd, .slice A l.length c, .int .i64 at'] w fun e w' => e = .returned (.tuple #[.agg #[.int .i64 0, .int .i64 0, .slice none 0 0], .int .i64 30]) ∧ Below w.heap.size w w' := by
  have hZ := Blk.new w 58 #[.int .i64 0, .int .i64 0, .slice none 0 0]
  have q0 := (hZ.cell 0).trans (show _ = some (.int .i64 0) from rfl)
  have q1 := (hZ.cell 1).trans (show _ = some (.int .i64 0) from rfl)
  have q2 := (hZ.cell 2).trans (show _ = some (.slice none 0 0) from rfl)
  by_cases h0 : at' < 0
  · go_enter Try.func38, Try.ntmps38
    go_wp2
    exact bodyPost_ret (v := .tuple #[.agg #[.int .i64 0, .int .i64 0, .slice none 0 0], .int .i64 30]) (by simp [results, Try.results38, go_sem, q0, q1, q2]) rfl ⟨rfl, (Below.refl _ _).alloc (Nat.le_refl _) _⟩
  · have ha' : (l.length : Int) ≤ at' := by omega
    go_enter Try.func38, Try.ntmps38
    go_wp2
    exact bodyPost_ret (v := .tuple #[.agg #[.int .i64 0, .int .i64 0, .slice none 0 0], .int .i64 30]) (by simp [results, Try.results38, go_sem, q0, q1, q2]) rfl ⟨rfl, (Below.refl _ _).alloc (Nat.le_refl _) _⟩
theorem Strs.mid {w : World} {B b off : Nat} {l : List (List UInt8)} (h : Strs w B (some ⟨b, off, none⟩) l) {lo hi : Nat} (h1 : lo < hi) (h2 : hi ≤ l.length) : Strs w B (some ⟨b, off + lo, none⟩) ((l.take hi).drop lo) :=
  Strs.cut_lt (Strs.take h h2) (by rw [List.length_take]; omega)
theorem mid_length {α : Type} (l : List α) {lo hi : Nat} (h2 : hi ≤ l.length) : ((l.take hi).drop lo).length = hi - lo := by rw [List.length_drop, List.length_take]; omega
theorem mid_drop {α : Type} (l : List α) (lo hi k : Nat) : ((l.take hi).drop lo).drop k = (l.take hi).drop (lo + k) := by rw [List.drop_drop]
theorem mid_take {α : Type} (l : List α) (lo hi k : Nat) (h : lo + k ≤ hi) : ((l.take hi).drop lo).take k = (l.take (lo + k)).drop lo := by rw [List.take_drop, List.take_take, Nat.min_eq_left h]
theorem Short.mid {l : List (List UInt8)} (h : Short l) (lo hi : Nat) : Short ((l.take hi).drop lo) := (h.take hi).drop lo
theorem digs_snoc (l : List Int) (d : Int) : digs (l ++ [d]) = digs l ++ [.int .u64 d] := by simp [digs]
theorem digInfo : (Try.prog.info? 25).map (fun i => (i.zero, i.size, i.bytes)) = some (some (.int .u64 0), 1, 8) := by kernel_rfl
theorem raboveN (wd : Int) (l : List (List UInt8)) (n : Nat) (A : Option Addr) (c B : Nat) (w : World) (hn : l.length = n) (h : Strs w B A l) (hB : B ≤ w.heap.size) (hl : n ≤ 65536) (hsh : Short l) (hc : n ≤ c) (hcm : c ≤ maxLen) :
    Calls Try.prog 98 #[.int .i64 wd, .slice A n c] w fun e w' => e = .returned (.int .u64 (aboveS wd l)) ∧ Below w.heap.size w w' := by
  subst hn; exact rabove_any wd l A c B w h hB hl hsh hc hcm
theorem aboveN (wd : Int) (l : List (List UInt8)) (n : Nat) (A : Option Addr) (c B : Nat) (w : World) (hn : l.length = n) (h : Strs w B A l) (hB : B ≤ w.heap.size) (hl : n ≤ 65536) (hsh : Short l) (hc : n ≤ c) (hcm : c ≤ maxLen) :
    Calls Try.prog 97 #[.int .i64 wd, .slice A n c] w fun e w' => e = .returned (.int .u64 (aboveS wd l)) ∧ Below w.heap.size w w' := by
  subst hn; exact above_any wd l A c B w h hB hl hsh hc hcm
set_option maxRecDepth 100000 in
set_option maxHeartbeats 2000000 in
theorem rpath_any (wd : Int) (at' : Nat) (l : List (List UInt8)) (A : Option Addr) (c B : Nat) (w : World) (h : Strs w B A l) (hB : B ≤ w.heap.size) (hl : l.length ≤ 65536) (hsh : Short l) (hc : l.length ≤ c) (hcm : c ≤ maxLen) (ha : at' < l.length) :
    Calls Try.prog 39 #[.int .i64 wd, .slice A l.length c, .int .i64 at'] w fun e w' => ∃ v, e = .returned (.tuple #[v, .int .i64 0]) ∧ IsPath w.heap.size w' v l.length at' (pathS wd l at') ∧ Below w.heap.size w w' := by
  have h0 : (at' : Int) < (l.length : Int) := by omega
  have h1 : ¬ (at' : Int) < 0 := by omega
  have hli : (l.length : Int) ≤ (c : Int) := by omega
  obtain ⟨b, off, rfl, _, _⟩ := Strs.at_ h (k := 0) (by omega)
  obtain ⟨i0, hi0, hz0, hz1, hz2⟩ := info_parts digInfo
  go_enter Try.func39, Try.ntmps39
  go_wp2
  go_loopw [9, 10] (fun x y wr => ∃ (lo hi f : Nat) (pre : List Int) (v : Value), x = .int .i64 (lo : Int) ∧ y = .int .i64 (hi : Int) ∧ lo ≤ at' ∧ at' < hi ∧ hi ≤ l.length ∧ hi - lo ≤ f ∧ pre.length + f ≤ l.length ∧ pre ++ pathF f wd ((l.take hi).drop lo) (at' - lo) = pathS wd l at' ∧ wr.ownsRow (w.heap.size + 2) 25 1 v pre.length (digs pre) ∧ Blk wr (w.heap.size + 1) 58 #[.int .i64 l.length, .int .i64 at', v] ∧ Blk wr w.heap.size 58 #[.int .i64 0, .int .i64 0, .slice none 0 0] ∧ Below w.heap.size w wr) (fun x y _ => (intOf y - intOf x).toNat)
  case atStart =>
    refine ⟨0, l.length, l.length, [], .slice none 0 0, rfl, rfl, by omega, ha, Nat.le_refl _, by omega, by simp, by simp [pathS], World.ownsRow_nil _ _ _ _, ?_, ?_, ?_⟩
    · have hN := Blk.new (w.alloc (.cells #[.int .i64 0, .int .i64 0, .slice none 0 0] 58)) 58 #[.int .i64 l.length, .int .i64 at', .slice none 0 0]
      simpa using hN
    · first | exact (Blk.new _ _ _).alloc _ | (trace_state; done)
    · first | exact ((Below.refl _ _).alloc (Nat.le_refl _) _).alloc (by simp) _ | (trace_state; done)
  case round =>
    obtain ⟨lo, hi, f, pre, v, rfl, rfl, h2, h3, h4, h5, h6, h7, hown, hblk, hblk0, hb⟩ := hrel
    have hsz := hblk.lt
    have H7 := Lib.hid h7
    clear h7
    have hcl := mid_length l (lo := lo) h4
    by_cases hgo : 1 < hi - lo
    · have hhb := halfS_bd (hi - lo) (by omega)
      have hL := pathF_left f wd ((l.take hi).drop lo) (at' - lo) (by omega) (by omega)
      have hR := pathF_right f wd ((l.take hi).drop lo) (at' - lo) (by omega) (by omega)
      have hsp := split_any (hi - lo)
      rw [hcl, mid_drop, mid_take l lo hi _ (by omega)] at hL hR
      have hw0 : IntKind.i64.wrap ((hi : Int) - (lo : Int)) = ((hi - lo : Nat) : Int) := by rw [IntWalk.i64_in _ (by omega)]; omega
      have hw1 : IntKind.i64.wrap ((lo : Int) + (halfS (hi - lo) : Nat)) = ((lo + halfS (hi - lo) : Nat) : Int) := by rw [IntWalk.i64_in _ (by omega)]; omega
      have e9 : lo + halfS (hi - lo) = lo + halfS (hi - lo) := rfl
      generalize hk : halfS (hi - lo) = k at *
      generalize hm : lo + k = m at *
      generalize hn : hi - lo = n at *
      have hgi : (1 : Int) < (n : Int) := by omega
      have hc1 := hblk.cell 0
      have hc2 := hblk.cell 1
      have hc3 := hblk.cell 2
      go_wp2_with fail
      refine (hsp _ (by omega) (by omega)).mono ?_
      rintro e w1 ⟨rfl, rfl⟩
      have hS1 := Rd.below h (hb.mono hB)
      have j0 : (lo : Int) ≤ (m : Int) := by omega
      have j1 : (m : Int) ≤ (hi : Int) := by omega
      have j2 : (hi : Int) ≤ (c : Int) := by omega
      have j3 : (m : Int) ≤ (c : Int) := by omega
      have j4 : (0 : Int) ≤ (m : Int) := by omega
      have j5 : (0 : Int) ≤ (lo : Int) := by omega
      have j6 : ¬ c = m := by omega
      have j7 : ¬ c = lo := by omega
      by_cases hlt : at' < m
      · have hlti : (at' : Int) < (m : Int) := by omega
        go_wp2_with fail
        refine (raboveN wd ((l.take hi).drop m) (hi - m) _ (c - m) B _ (mid_length l h4) (Strs.mid hS1 (by omega) h4) (Nat.le_trans hB hb.size) (by omega) (hsh.mid _ _) (by omega) (by omega)).mono ?_
        rintro e w2 ⟨rfl, hb2⟩
        have hown2 := own_below hown hb2
        have hblk2 := hblk.below hb2 hblk.lt
        have hblk02 := hblk0.below hb2 hblk0.lt
        have hb02 := hb.trans (hb2.mono hb.size)
        have hs2 := hblk2.lt
        have hd := aboveS_bd wd ((l.take hi).drop m)
        generalize aboveS wd ((l.take hi).drop m) = d at *
        have q2 := (hblk2.cell 2).trans (show _ = some v from rfl)
        go_wp2_with (first
          | (at_builtin; refine wpList_append_any _ rfl (.tmp 49) (.tmp 51) 56 rfl (w.heap.size + 2) 25 i0 _ 1 8 Try.underlying56 hi0 hz0 hz1 hz2 rfl (by omega) v pre.length _ (by rfl) (hown2.alloc _) (w2.heap.size + 1) _ 1 1 [.int .u64 d] (by rfl) (Rd.laid w2 #[.int .u64 d] 25 1 1 rfl) (fun u hu => by simp at hu; subst hu; rfl) (by simp [maxLen]; omega) (by omega) (by simp; omega) ?_
             intro v3 w3 hown3 hg3 hat3
             obtain ⟨A3, n3, rfl⟩ := own_shape hown3
             have hblk3 := (hblk2.alloc _).grown hg3 (fun e => by have := own_ge hown2 _ e.symm; omega)
             have hblk03 := (hblk02.alloc _).grown hg3 (fun e => by have := own_ge hown2 _ e.symm; omega)
             have hb3 : Below w.heap.size w w3 := (hb02.alloc hb02.size _).grown hg3 (by simp; omega) (fun k hk => by have := own_ge hown2 k hk; omega)
             have f3 := hblk3.frozen 2
             have c3 := (hblk3.cell 2).trans (show _ = some v from rfl)))
        go_roundw
        case rel =>
          refine ⟨lo, m, f - 1, pre ++ [d], _, rfl, rfl, by omega, by omega, by omega, by omega, by simp; omega, ?_, ?_, (hblk3.set_ 2 _), hblk03.far (by simp) _, hb3.setCell (by simp) _⟩
          · rw [← H7.out, hL (by omega), List.append_assoc]; rfl
          · rw [digs_snoc, show (pre ++ [d]).length = pre.length + 1 by simp]
            exact ownsRow_setCell_below hown3 (a := ⟨w.heap.size + 1, 2, none⟩) (by simp) _
        case measure => simp [intOf]; omega
      · have hlti : ¬ (at' : Int) < (m : Int) := by omega
        go_wp2_with fail
        refine (raboveN wd ((l.take m).drop lo) (m - lo) _ (c - lo) B _ (mid_length l (by omega)) (Strs.mid hS1 (by omega) (by omega)) (Nat.le_trans hB hb.size) (by omega) (hsh.mid _ _) (by omega) (by omega)).mono ?_
        rintro e w2 ⟨rfl, hb2⟩
        have hown2 := own_below hown hb2
        have hblk2 := hblk.below hb2 hblk.lt
        have hblk02 := hblk0.below hb2 hblk0.lt
        have hb02 := hb.trans (hb2.mono hb.size)
        have hs2 := hblk2.lt
        have hd := aboveS_bd wd ((l.take m).drop lo)
        generalize aboveS wd ((l.take m).drop lo) = d at *
        have q2 := (hblk2.cell 2).trans (show _ = some v from rfl)
        go_wp2_with (first
          | (at_builtin; refine wpList_append_any _ rfl (.tmp 62) (.tmp 64) 56 rfl (w.heap.size + 2) 25 i0 _ 1 8 Try.underlying56 hi0 hz0 hz1 hz2 rfl (by omega) v pre.length _ (by rfl) (hown2.alloc _) (w2.heap.size + 1) _ 1 1 [.int .u64 d] (by rfl) (Rd.laid w2 #[.int .u64 d] 25 1 1 rfl) (fun u hu => by simp at hu; subst hu; rfl) (by simp [maxLen]; omega) (by omega) (by simp; omega) ?_
             intro v3 w3 hown3 hg3 hat3
             obtain ⟨A3, n3, rfl⟩ := own_shape hown3
             have hblk3 := (hblk2.alloc _).grown hg3 (fun e => by have := own_ge hown2 _ e.symm; omega)
             have hblk03 := (hblk02.alloc _).grown hg3 (fun e => by have := own_ge hown2 _ e.symm; omega)
             have hb3 : Below w.heap.size w w3 := (hb02.alloc hb02.size _).grown hg3 (by simp; omega) (fun k hk => by have := own_ge hown2 k hk; omega)
             have f3 := hblk3.frozen 2
             have c3 := (hblk3.cell 2).trans (show _ = some v from rfl)))
        go_roundw
        case rel =>
          refine ⟨m, hi, f - 1, pre ++ [d], _, rfl, rfl, by omega, by omega, by omega, by omega, by simp; omega, ?_, ?_, (hblk3.set_ 2 _), hblk03.far (by simp) _, hb3.setCell (by simp) _⟩
          · rw [← H7.out, hR (by omega), List.append_assoc, show at' - m = at' - lo - k by omega]; rfl
          · rw [digs_snoc, show (pre ++ [d]).length = pre.length + 1 by simp]
            exact ownsRow_setCell_below hown3 (a := ⟨w.heap.size + 1, 2, none⟩) (by simp) _
        case measure => simp [intOf]; omega
    · have hp : pathS wd l at' = pre := by rw [← H7.out, pathF_end _ _ _ _ (by rw [hcl]; omega)]; simp
      have hw0 : IntKind.i64.wrap ((hi : Int) - (lo : Int)) = (hi : Int) - (lo : Int) := IntWalk.i64_in _ (by omega)
      have hgi : ¬ (1 : Int) < (hi : Int) - (lo : Int) := by omega
      obtain ⟨A3, n3, rfl⟩ := own_shape hown
      have q0 := (hblk.cell 0).trans (show _ = some (.int .i64 (l.length : Int)) from rfl)
      have q1 := (hblk.cell 1).trans (show _ = some (.int .i64 (at' : Int)) from rfl)
      have q2 := (hblk.cell 2).trans (show _ = some (.slice A3 pre.length n3) from rfl)
      have z0 := (hblk0.cell 0).trans (show _ = some (.int .i64 0) from rfl)
      have z1 := (hblk0.cell 1).trans (show _ = some (.int .i64 0) from rfl)
      have z2 := (hblk0.cell 2).trans (show _ = some (.slice none 0 0) from rfl)
      have f0 := hblk0.frozen 0
      have f1 := hblk0.frozen 1
      have f2 := hblk0.frozen 2
      have hZ := ((hblk0.set_ 0 (.int .i64 (l.length : Int))).set_ 1 (.int .i64 (at' : Int))).set_ 2 (.slice A3 pre.length n3)
      have hO := ownsRow_setCell_below (ownsRow_setCell_below (ownsRow_setCell_below hown (a := ⟨w.heap.size, 0, none⟩) (by simp) (.int .i64 (l.length : Int))) (a := ⟨w.heap.size, 1, none⟩) (by simp) (.int .i64 (at' : Int))) (a := ⟨w.heap.size, 2, none⟩) (by simp) (.slice A3 pre.length n3)
      have hBB := ((hb.setCell (p := ⟨w.heap.size, 0, none⟩) (Nat.le_refl _) (.int .i64 (l.length : Int))).setCell (p := ⟨w.heap.size, 1, none⟩) (Nat.le_refl _) (.int .i64 (at' : Int))).setCell (p := ⟨w.heap.size, 2, none⟩) (Nat.le_refl _) (.slice A3 pre.length n3)
      have y0 := (hZ.cell 0).trans (show _ = some (.int .i64 (l.length : Int)) from rfl)
      have y1 := (hZ.cell 1).trans (show _ = some (.int .i64 (at' : Int)) from rfl)
      have y2 := (hZ.cell 2).trans (show _ = some (.slice A3 pre.length n3) from rfl)
      go_wp2
      refine bodyPost_ret (v := .tuple #[.agg #[.int .i64 l.length, .int .i64 at', .slice A3 pre.length n3], .int .i64 0]) (by simp [results, Try.results39, go_sem, y0, y1, y2]) rfl ⟨_, rfl, ?_, hBB⟩
      exact ⟨A3, n3, rfl, Rd.of_own hO, fun b' o' e' => by have := own_from hO b' o' e'; omega⟩
end Go.Proofs.Ytdgifhgiablgdaa
