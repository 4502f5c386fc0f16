/- The image and the digest of a tree's top, by the reference. -/
import Derived.Test.YtjjkdmngmopjbaaProg
import Derived.Test.YtjjkdmngmopjbaaTe0
set_option linter.unusedSimpArgs false
set_option linter.unusedVariables false
namespace Go.Proofs.Ytjjkdmngmopjbaa
open Go.RowKit
def tagT : Tr → Int
  | .leaf _ _ => 3
  | .fork _ _ _ => 4
def partsT (wd : Int) : Tr → List (List UInt8)
  | .leaf k v => [k, v]
  | .fork p l r => [be (p : Int) 5, be (digT wd l) 8, be (digT wd r) 8]
theorem digT_eq (wd : Int) (t : Tr) : digT wd t = ofS wd (tagT t) (partsT wd t) := by cases t <;> rfl
/-- all that a reference's walk through a tree's items needs -/
def GoodT (t : Tr) : Prop := t.ok ∧ lowT t ∧ t.items.length ≤ 1000000000 ∧ ∀ x, x ∈ t.items → x.1.length ≤ 1000000000 ∧ x.2.length ≤ maxLen
theorem GoodT.left {p : Nat} {l r : Tr} (h : GoodT (.fork p l r)) : GoodT l := by
  obtain ⟨h1, h2, h3, h4⟩ := h
  rw [Tr.items, List.length_append] at h3
  exact ⟨h1.1, h2.2.1, by omega, fun x hx => h4 x (by rw [Tr.items]; exact List.mem_append_left _ hx)⟩
theorem GoodT.right {p : Nat} {l r : Tr} (h : GoodT (.fork p l r)) : GoodT r := by
  obtain ⟨h1, h2, h3, h4⟩ := h
  rw [Tr.items, List.length_append] at h3
  exact ⟨h1.2.1, h2.2.2, by omega, fun x hx => h4 x (by rw [Tr.items]; exact List.mem_append_right _ hx)⟩
theorem partsT_short (wd : Int) {t : Tr} (h : GoodT t) : (partsT wd t).length ≤ maxLen ∧ Short (partsT wd t) := by
  cases t with
  | leaf k v =>
    obtain ⟨h1, h2, h3, h4⟩ := h
    have := h4 (k, v) (by simp [Tr.items])
    exact ⟨by simp [partsT, maxLen], short2 (Nat.le_trans this.1 (by simp [maxLen])) this.2⟩
  | fork p l r => exact ⟨by simp [partsT, maxLen], short3 _ _ _⟩
theorem rforkT_any (p : Nat) (l r : Tr) (A : Option Addr) (c B : Nat) (w : World) (hg : GoodT (.fork p l r)) (hl : ItR w B A (Tr.items (.fork p l r))) :
    Calls Try.prog 68 #[.slice A (Tr.items (.fork p l r)).length c] w fun e w' => e = .returned (.tuple #[.int .i64 (p : Int), .int .i64 (l.items.length : Int)]) ∧ w = w' :=
  rfork_any p l.items.length _ A c B w hl hg.2.2.1 (fun x hx => (hg.2.2.2 x hx).1) hg.2.1.1 (fun q hq => Tr.zc_below hg.1 hq) (Tr.zc_fork hg.1) l.items_pos (by have := r.items_pos; rw [Tr.items, List.length_append]; omega)
def TopI (wd : Int) (t : Tr) : Prop := ∀ (n : Nat) (A : Option Addr) (c B : Nat) (w : World), t.items.length = n → ItR w B A t.items → B ≤ w.heap.size → n ≤ c → c ≤ maxLen →
    Calls Try.prog 107 #[.int .i64 wd, .slice A n c] w fun e w' => ∃ x, e = .returned x ∧ IsImg w.heap.size w' x (tagT t) (partsT wd t) ∧ Below w.heap.size w w'
def TopD (wd : Int) (t : Tr) : Prop := ∀ (n : Nat) (A : Option Addr) (c B : Nat) (w : World), t.items.length = n → ItR w B A t.items → B ≤ w.heap.size → n ≤ c → c ≤ maxLen →
    Calls Try.prog 63 #[.int .i64 wd, .slice A n c] w fun e w' => e = .returned (.int .u64 (digT wd t)) ∧ Below w.heap.size w w'
set_option maxRecDepth 100000 in
theorem rtopDigest_step (wd : Int) (t : Tr) (hg : GoodT t) (h : TopI wd t) : TopD wd t := by
  intro n A c B w hn hl hB hc hcm
  have hps := partsT_short wd hg
  rw [digT_eq]
  have H := h n A c B
  generalize tagT t = tag at *
  generalize partsT wd t = ps at *
  go_enter Try.func63, Try.ntmps63
  go_wp2_with fail
  refine (H _ hn hl hB hc hcm).mono ?_
  rintro e w1 ⟨x, rfl, ⟨A', c', rfl, hs', hf'⟩, hb1⟩
  clear H h
  go_wp2_with fail
  refine (rimageDigest_any wd tag ps A' c' w1.heap.size _ (by exact Rd.alloc hs' (Nat.le_refl _) _) (by simp) hps.1 hps.2).mono ?_
  rintro e w2 ⟨rfl, hb2⟩
  go_wp2_with fail
  go_ret
  exact ⟨rfl, (hb1.alloc hb1.size _).trans (hb2.mono (by have := hb1.size; simp; omega))⟩
set_option maxRecDepth 100000 in
theorem rtopImage_leaf (wd : Int) (k v : Key) : TopI wd (.leaf k v) := by
  intro n A c B w hn hl hB hc hcm
  have hn1 : n = 1 := by rw [← hn]; rfl
  subst hn1
  have hl1 : (1 : Nat) = (Tr.items (.leaf k v)).length := rfl
  obtain ⟨b, off, rfl, hb, x0, x1⟩ := hl.at_ (k := 0) (by simp [Tr.items])
  have y0 : w.cell? ⟨b, off, none⟩ = some (.string (bs k)) := by simpa [Tr.items] using x0
  have y1 : w.cell? ⟨b, off + 1, none⟩ = some (.string (bs v)) := by simpa [Tr.items] using x1
  clear x0 x1 hl hn hl1
  have hB0 : Below w.heap.size w (w.alloc (.cells #[.int .i64 0, .slice none 0 0] 106)) := (Below.refl _ _).alloc (Nat.le_refl _) _
  have hY : Blk (w.alloc (.cells #[.int .i64 0, .slice none 0 0] 106)) w.heap.size 106 #[.int .i64 0, .slice none 0 0] := Blk.new _ _ _
  have z0 := (hB0.cell (p := ⟨b, off, none⟩) (by show b < _; omega)).trans y0
  have z1 := (hB0.cell (p := ⟨b, off + 1, none⟩) (by show b < _; omega)).trans y1
  have c0 := (hY.cell 0).trans (show _ = some (Value.int .i64 0) from rfl)
  have c1 := (hY.cell 1).trans (show _ = some (Value.slice none 0 0) from rfl)
  have f0 := hY.frozen 0
  have f1 := hY.frozen 1
  generalize hw0 : w.alloc (.cells #[.int .i64 0, .slice none 0 0] 106) = w0 at *
  go_enter Try.func107, Try.ntmps107
  go_wp2_with fail
  have hZ := hY.alloc (.cells #[.string (bs k), .string (bs v)] 9)
  have e0 := (hZ.cell 0).trans (show _ = some (Value.int .i64 0) from rfl)
  have e1 := (hZ.cell 1).trans (show _ = some (Value.slice none 0 0) from rfl)
  have g0 := hZ.frozen 0
  have g1 := hZ.frozen 1
  have hq := hY.lt
  have HS := Lib.hid (Strs.laid (w := (w0.setCell ⟨w.heap.size, 0, none⟩ (.int .i64 3)).setCell ⟨w.heap.size, 1, none⟩ (.slice (some ⟨w0.heap.size, 0, none⟩) 2 2)) (t := 9) [k, v])
  have HB1 := (hB0.setCell (p := ⟨w.heap.size, 0, none⟩) (Nat.le_refl _) (.int .i64 3)).setCell (p := ⟨w.heap.size, 1, none⟩) (Nat.le_refl _) (.slice (some ⟨w0.heap.size, 0, none⟩) 2 2)
  have HB := Lib.hid (HB1.alloc HB1.size (.cells #[.string (bs k), .string (bs v)] 9))
  clear HB1
  have hZ2 := Lib.hid (((hY.set_ 0 (.int .i64 3)).set_ 1 (.slice (some ⟨w0.heap.size, 0, none⟩) 2 2)).alloc (.cells #[.string (bs k), .string (bs v)] 9))
  have hsz : w.heap.size < w0.heap.size := hY.lt
  clear hw0 hZ hY hB0
  go_region
  go_wp2_with fail
  have r0 := (hZ2.out.cell 0).trans (show _ = some (Value.int .i64 3) from rfl)
  have r1 := (hZ2.out.cell 1).trans (show _ = some (Value.slice (some ⟨w0.heap.size, 0, none⟩) 2 2) from rfl)
  refine bodyPost_ret (v := .agg #[.int .i64 3, .slice (some ⟨w0.heap.size, 0, none⟩) 2 2]) (by simp [results, Try.results107, go_sem, r0, r1]) rfl ⟨_, rfl, ⟨_, _, rfl, ?_, from_some (by omega)⟩, ?_⟩
  · have hs := HS.out
    simp at hs
    simp [partsT]
    exact hs
  · exact HB.out.drew
set_option maxRecDepth 100000 in
set_option maxHeartbeats 1000000 in
theorem rtopImage_fork (wd : Int) (p : Nat) (tl tr : Tr) (hg : GoodT (.fork p tl tr)) (il : TopD wd tl) (ir : TopD wd tr) : TopI wd (.fork p tl tr) := by
  intro n A c B w hn hl hB hc hcm
  have hlen : tl.items.length + tr.items.length = n := by rw [← hn, Tr.items, List.length_append]
  have hpl := tl.items_pos
  have hpr := tr.items_pos
  obtain ⟨b, off, rfl, hbB, xz0, xz1⟩ := hl.at_ (k := 0) (by omega)
  clear xz0 xz1
  have hL : ItR w B (some ⟨b, off, none⟩) tl.items := by
    have := hl.front (k := tl.items.length) (by omega)
    rwa [Tr.items, List.take_left] at this
  have hR : ItR w B (some ⟨b, off + tl.items.length * 2, none⟩) tr.items := by
    have := hl.back (k := tl.items.length) (by omega)
    rwa [Tr.items, List.drop_left] at this
  have hf := fun W (h : ItR W B (some ⟨b, off, none⟩) (Tr.items (.fork p tl tr))) => rforkT_any p tl tr (some ⟨b, off, none⟩) c B W hg h
  rw [hn] at hf
  have hx := digT_bd wd tl
  have hy := digT_bd wd tr
  have HL := fun (A' : Option Addr) (c' : Nat) (W : World) => il tl.items.length A' c' B W rfl
  have HR := fun (A' : Option Addr) (c' : Nat) (W : World) (B' : Nat) => ir (n - tl.items.length) A' c' B' W (by omega)
  have hTp : Hid (partsT wd (.fork p tl tr) = [be (p : Int) 5, be (digT wd tl) 8, be (digT wd tr) 8] ∧ tagT (.fork p tl tr) = 4) := ⟨rfl, rfl⟩
  generalize partsT wd (.fork p tl tr) = PS at *
  generalize tagT (.fork p tl tr) = TG at *
  generalize digT wd tl = x at *
  generalize digT wd tr = y at *
  have hB0 : Below w.heap.size w (w.alloc (.cells #[.int .i64 0, .slice none 0 0] 106)) := (Below.refl _ _).alloc (Nat.le_refl _) _
  have hY : Blk (w.alloc (.cells #[.int .i64 0, .slice none 0 0] 106)) w.heap.size 106 #[.int .i64 0, .slice none 0 0] := Blk.new _ _ _
  have hl0 : ItR _ B _ _ := Rd.below hl (hB0.mono hB)
  have hL0 : ItR _ B _ _ := Rd.below hL (hB0.mono hB)
  have hR0 : ItR _ B _ _ := Rd.below hR (hB0.mono hB)
  have hsz : w.heap.size < (w.alloc (.cells #[.int .i64 0, .slice none 0 0] 106)).heap.size := hY.lt
  have hn1 : ((n : Int) == 1) = false := beq_eq_false_iff_ne.2 (by omega)
  have hn2 : decide ((n : Int) = 1) = false := decide_eq_false (by omega)
  clear hl hL hR
  generalize tl.items.length = k at *
  generalize hw0 : w.alloc (.cells #[.int .i64 0, .slice none 0 0] 106) = w0 at *
  have i0 : (0 : Int) ≤ (k : Int) := by omega
  have i1 : (k : Int) ≤ (n : Int) := by omega
  have i2 : (k : Int) ≤ (c : Int) := by omega
  have i3 : (n : Int) ≤ (c : Int) := by omega
  have i5 : ¬ c = k := by omega
  clear il ir hg
  go_enter Try.func107, Try.ntmps107
  go_wp2_with fail
  clear hw0
  refine (hf _ hl0).mono ?_
  rintro e w1 ⟨rfl, rfl⟩
  clear hf
  go_wp2_with fail
  refine (HL _ c _ hL0 (by omega) (by omega) (by omega)).mono ?_
  rintro e w2 ⟨rfl, hb2⟩
  clear HL
  go_wp2_with fail
  refine (HR _ (c - k) _ B (Rd.below hR0 (hb2.mono (by omega))) (by have := hb2.size; omega) (by omega) (by omega)).mono ?_
  rintro e w3 ⟨rfl, hb3⟩
  have g3 := hb2.trans (hb3.mono hb2.size)
  clear HR hb2 hb3
  go_wp2_with fail
  refine (rfive_any (p : Int) _).mono ?_
  rintro e w4 ⟨rfl, hb4⟩
  have g4 := g3.trans (hb4.mono g3.size)
  clear hb4
  go_wp2_with fail
  refine (reight_any x _ hx.1 hx.2).mono ?_
  rintro e w5 ⟨rfl, hb5⟩
  have g5 := g4.trans (hb5.mono g4.size)
  clear hb5
  go_wp2_with fail
  refine (reight_any y _ hy.1 hy.2).mono ?_
  rintro e w6 ⟨rfl, hb6⟩
  have g6 := g5.trans (hb6.mono g5.size)
  clear hb6 g3 g4 g5
  have hZ := (hY.below g6 hsz).alloc (.cells #[.string (bs (be (p : Int) 5)), .string (bs (be x 8)), .string (bs (be y 8))] 9)
  have e0 := (hZ.cell 0).trans (show _ = some (Value.int .i64 0) from rfl)
  have e1 := (hZ.cell 1).trans (show _ = some (Value.slice none 0 0) from rfl)
  have q0 := hZ.frozen 0
  have q1 := hZ.frozen 1
  have hY6 := hY.below g6 hsz
  have c0 := (hY6.cell 0).trans (show _ = some (Value.int .i64 0) from rfl)
  have c1 := (hY6.cell 1).trans (show _ = some (Value.slice none 0 0) from rfl)
  have f0 := hY6.frozen 0
  have f1 := hY6.frozen 1
  have hsz6 : w.heap.size < w6.heap.size := (hY.below g6 hsz).lt
  clear hY6
  have hZ2 := Lib.hid ((((hY.below g6 hsz).set_ 0 (.int .i64 4)).set_ 1 (.slice (some ⟨w6.heap.size, 0, none⟩) 3 3)).alloc (.cells #[.string (bs (be (p : Int) 5)), .string (bs (be x 8)), .string (bs (be y 8))] 9))
  have HS := Lib.hid (Strs.laid (w := (w6.setCell ⟨w.heap.size, 0, none⟩ (.int .i64 4)).setCell ⟨w.heap.size, 1, none⟩ (.slice (some ⟨w6.heap.size, 0, none⟩) 3 3)) (t := 9) [be (p : Int) 5, be x 8, be y 8])
  have HB1 := ((hB0.trans (g6.mono hB0.size)).setCell (p := ⟨w.heap.size, 0, none⟩) (Nat.le_refl _) (.int .i64 4)).setCell (p := ⟨w.heap.size, 1, none⟩) (Nat.le_refl _) (.slice (some ⟨w6.heap.size, 0, none⟩) 3 3)
  have HB := Lib.hid (HB1.alloc HB1.size (.cells #[.string (bs (be (p : Int) 5)), .string (bs (be x 8)), .string (bs (be y 8))] 9))
  clear HB1
  go_wp2_with fail
  have r0 := (hZ2.out.cell 0).trans (show _ = some (Value.int .i64 4) from rfl)
  have r1 := (hZ2.out.cell 1).trans (show _ = some (Value.slice (some ⟨w6.heap.size, 0, none⟩) 3 3) from rfl)
  obtain ⟨hT1, hT2⟩ := hTp.out
  subst hT1
  subst hT2
  refine bodyPost_ret (v := .agg #[.int .i64 4, .slice (some ⟨w6.heap.size, 0, none⟩) 3 3]) (by simp [results, Try.results107, go_sem, r0, r1]) rfl ⟨_, rfl, ⟨_, _, rfl, ?_, from_some (by omega)⟩, ?_⟩
  · have hs := HS.out
    simp at hs
    simp
    exact hs
  · exact HB.out
theorem rtop_all (wd : Int) : ∀ t : Tr, GoodT t → TopI wd t ∧ TopD wd t
  | .leaf k v, hg => ⟨rtopImage_leaf wd k v, rtopDigest_step wd _ hg (rtopImage_leaf wd k v)⟩
  | .fork p l r, hg =>
    have h := rtopImage_fork wd p l r hg (rtop_all wd l hg.left).2 (rtop_all wd r hg.right).2
    ⟨h, rtopDigest_step wd _ hg h⟩
end Go.Proofs.Ytjjkdmngmopjbaa
