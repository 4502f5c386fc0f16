/- Tries in memory, by package trie: Put. -/
import Derived.Test.YtkcnoljjilhpoaaProg
import Derived.Test.YtkcnoljjilhpoaaTri8
import Derived.Deep.RegionHeld3
import Derived.Deep.RegionLaw
import Derived.Deep.QuietTactic
import Derived.BigQuiet
namespace Go.Proofs.Ytkcnoljjilhpoaa
open Go.RowKit
theorem TrR.far {wd : Int} {W : World} {g : Nat} {cs : Array Value} (hg : Blk W g 37 cs) {p : Addr} (hp : p.block = g) (u : Value) : ∀ {t : Tr} {B q : Nat}, TrR wd W B t q → TrR wd (W.setCell p u) B t q
  | .leaf k v, B, q, h => ⟨h.1, h.2.far (fun e => Blk.ne_ h.2 hg (by decide) (e.trans hp)) u⟩
  | .fork _ l r, B, q, h => by
    obtain ⟨h1, a, b, h2, h3, h4⟩ := h
    exact ⟨h1, a, b, h2.far (fun e => Blk.ne_ h2 hg (by decide) (e.trans hp)) u, h3.far hg hp u, h4.far hg hp u⟩
theorem OTrR.far {wd : Int} {W : World} {g : Nat} {cs : Array Value} (hg : Blk W g 37 cs) {p : Addr} (hp : p.block = g) (u : Value) : ∀ {t : Option Tr} {B : Nat} {a : Option Addr}, OTrR wd W B t a → OTrR wd (W.setCell p u) B t a
  | none, _, _, h => h
  | some _, _, _, ⟨q, e, h⟩ => ⟨q, e, h.far hg hp u⟩
theorem OTrR.put {wd : Int} {W : World} {g : Nat} {cs : Array Value} (hg : Blk W g 37 cs) (u v : Value) {t : Option Tr} {a : Option Addr} (h : OTrR wd W W.heap.size t a) : OTrR wd ((W.setCell ⟨g, 0, none⟩ u).setCell ⟨g, 1, none⟩ v) ((W.setCell ⟨g, 0, none⟩ u).setCell ⟨g, 1, none⟩ v).heap.size t a := by
  have h2 := (h.far hg (p := ⟨g, 0, none⟩) rfl u).far (hg.set_ 0 u) (p := ⟨g, 1, none⟩) rfl v
  have e : ((W.setCell ⟨g, 0, none⟩ u).setCell ⟨g, 1, none⟩ v).heap.size = W.heap.size := by simp [World.setCell]
  rw [e]
  exact h2
theorem callB {B : Nat} {w0 W W' : World} (h : Below B w0 W) (hB : B ≤ w0.heap.size) (hb : Below W.heap.size W W') : Below B w0 W' := h.trans (hb.mono (Nat.le_trans hB h.size))
/-- the list of what is in it -/
def Puts_ (wd : Int) (w : World) (k v : Key) (t : Option Tr) (e : Ending) (w' : World) : Prop :=
  ∃ (t' : Option Tr) (a' : Option Addr), e = .returned (.tuple #[treeV wd a', .int .i64 0]) ∧ Tr.ook t' ∧ Tr.oitems t' = putL k v (Tr.oitems t) ∧ OTrR wd w' w'.heap.size t' a' ∧ Below w.heap.size w w'
def PutsR (wd : Int) (w : World) (t' : Option Tr) (e : Ending) (w' : World) : Prop :=
  ∃ (a' : Option Addr), e = .returned (.tuple #[.agg #[.int .i64 wd, .pointer a'], .int .i64 0]) ∧ OTrR wd w' w'.heap.size t' a' ∧ Below w.heap.size w w'
set_option maxRecDepth 100000 in
set_option maxHeartbeats 4000000 in
theorem putLong_any (wd : Int) (k v : Key) (a : Option Addr) (w : World) (h : 32 < k.length ∨ 4096 < v.length) :
    Calls Try.prog 21 #[treeV wd a, .string (bs k), .string (bs v)] w fun e w' => e = .returned (.tuple #[treeV 0 none, .int .i64 3]) ∧ Below w.heap.size w w' := by
  have hcase : (decide ((32 : Int) < (k.length : Int)) = true) ∨ (decide ((32 : Int) < (k.length : Int)) = false ∧ decide ((4096 : Int) < (v.length : Int)) = true) := by
    by_cases hn : 32 < k.length
    · exact .inl (decide_eq_true (by omega))
    · exact .inr ⟨decide_eq_false (by omega), decide_eq_true (by omega)⟩
  clear h
  have hY : Blk ((w.alloc (.cells #[.int .i64 wd, .pointer a] 37)).alloc (.cells #[.int .i64 0, .pointer none] 37)) (w.heap.size + 1) 37 #[.int .i64 0, .pointer none] := by
    have := Blk.new (w.alloc (.cells #[.int .i64 wd, .pointer a] 37)) 37 #[.int .i64 0, .pointer none]
    simpa using this
  have hB0 : Below w.heap.size w ((w.alloc (.cells #[.int .i64 wd, .pointer a] 37)).alloc (.cells #[.int .i64 0, .pointer none] 37)) := ((Below.refl _ _).alloc (Nat.le_refl _) _).alloc (by simp) _
  have y0 := (hY.cell 0).trans (show _ = some (Value.int .i64 0) from rfl)
  have y1 := (hY.cell 1).trans (show _ = some (Value.pointer none) from rfl)
  have f0 := hY.frozen 0
  have f1 := hY.frozen 1
  unfold treeV
  rcases hcase with d1 | ⟨d1, d2⟩
  all_goals
    go_enter Try.func21, Try.ntmps21
    go_wp2_with fail
    generalize ((w.alloc (.cells #[.int .i64 wd, .pointer a] 37)).alloc (.cells #[.int .i64 0, .pointer none] 37)) = w0 at *
    refine bodyPost_ret (v := .tuple #[.agg #[.int .i64 0, .pointer none], .int .i64 3]) (by simp [results, Try.results21, go_sem, y0, y1]) rfl ⟨rfl, hB0⟩
/-- the walk of Put up to the answer of find -/
theorem keepPut {w0 W : World} {g : Nat} {u v : Value} (c0 : w0.cell? ⟨g, 0, none⟩ = some u) (c1 : w0.cell? ⟨g, 1, none⟩ = some v) (h : Below (g + 1) w0 W) : (W.cell? ⟨g, 0, none⟩ = some u ∧ W.cell? ⟨g, 1, none⟩ = some v) ∧ Below (g + 1) w0 W :=
  ⟨⟨(h.cell (p := ⟨g, 0, none⟩) (Nat.lt_succ_self _)).trans c0, (h.cell (p := ⟨g, 1, none⟩) (Nat.lt_succ_self _)).trans c1⟩, h⟩
theorem keepPut2 {w0 W : World} {g q : Nat} {u v s : Value} (c0 : w0.cell? ⟨g, 0, none⟩ = some u) (c1 : w0.cell? ⟨g, 1, none⟩ = some v) (hq : q < g) (c2 : w0.cell? ⟨q, 0, none⟩ = some s) (h : Below (g + 1) w0 W) : (W.cell? ⟨g, 0, none⟩ = some u ∧ W.cell? ⟨g, 1, none⟩ = some v ∧ W.cell? ⟨q, 0, none⟩ = some s) ∧ Below (g + 1) w0 W :=
  ⟨⟨(h.cell (p := ⟨g, 0, none⟩) (Nat.lt_succ_self _)).trans c0, (h.cell (p := ⟨g, 1, none⟩) (Nat.lt_succ_self _)).trans c1, (h.cell (p := ⟨q, 0, none⟩) (Nat.lt_succ_of_lt hq)).trans c2⟩, h⟩
set_option maxRecDepth 100000 in
set_option maxHeartbeats 4000000 in
theorem putSkipNo_any (wd : Int) (k : Key) (w : World) (hk : k.length ≤ 32) :
    Calls Try.prog 21 #[treeV wd none, .string (bs k), .string (bs [])] w (PutsR wd w none) := by
  have hY : Blk ((w.alloc (.cells #[.int .i64 wd, .pointer none] 37)).alloc (.cells #[.int .i64 0, .pointer none] 37)) (w.heap.size + 1) 37 #[.int .i64 0, .pointer none] := by
    have := Blk.new (w.alloc (.cells #[.int .i64 wd, .pointer none] 37)) 37 #[.int .i64 0, .pointer none]
    simpa using this
  have hX : Blk ((w.alloc (.cells #[.int .i64 wd, .pointer none] 37)).alloc (.cells #[.int .i64 0, .pointer none] 37)) w.heap.size 37 #[.int .i64 wd, .pointer none] := (Blk.new w 37 #[.int .i64 wd, .pointer none]).alloc _
  have hB0 : Below w.heap.size w ((w.alloc (.cells #[.int .i64 wd, .pointer none] 37)).alloc (.cells #[.int .i64 0, .pointer none] 37)) := ((Below.refl _ _).alloc (Nat.le_refl _) _).alloc (by simp) _
  have d1 : decide ((32 : Int) < (k.length : Int)) = false := decide_eq_false (by omega)
  have hf := findNo_any wd k ((w.alloc (.cells #[.int .i64 wd, .pointer none] 37)).alloc (.cells #[.int .i64 0, .pointer none] 37))
  unfold treeV at *
  generalize hw0 : ((w.alloc (.cells #[.int .i64 wd, .pointer none] 37)).alloc (.cells #[.int .i64 0, .pointer none] 37)) = w0 at *
  have c0 := (hX.cell 0).trans (show _ = some (Value.int .i64 wd) from rfl)
  have c1 := (hX.cell 1).trans (show _ = some (Value.pointer none) from rfl)
  go_enter Try.func21, Try.ntmps21
  go_wp2_with fail
  refine hf.mono ?_
  rintro e w1 ⟨rfl, hb1⟩
  have hX1 := hX.below hb1 hX.lt
  have hY1 := hY.below hb1 hY.lt
  have hB1 := callBelow hB0 hb1
  clear hf
  clear hX hY hB0 hb1 c0 c1
  have c0 := (hX1.cell 0).trans (show _ = some (Value.int .i64 wd) from rfl)
  have c1 := (hX1.cell 1).trans (show _ = some (Value.pointer none) from rfl)
  have y0 := (hY1.cell 0).trans (show _ = some (Value.int .i64 0) from rfl)
  have y1 := (hY1.cell 1).trans (show _ = some (Value.pointer none) from rfl)
  have f0 := hY1.frozen 0
  have f1 := hY1.frozen 1
  go_wp2_with fail
  have hz := (hY1.set_ 0 (.int .i64 wd)).set_ 1 (.pointer none)
  have z0 := (hz.cell 0).trans (show _ = some (Value.int .i64 wd) from rfl)
  have z1 := (hz.cell 1).trans (show _ = some (Value.pointer none) from rfl)
  exact bodyPost_ret (v := .tuple #[.agg #[.int .i64 wd, .pointer none], .int .i64 0]) (by simp [results, Try.results21, go_sem, z0, z1]) rfl ⟨_, rfl, OTrR.put hY1 _ _ (t := none) rfl, (hB1.setCell (by simp) _).setCell (by simp) _⟩
set_option maxRecDepth 100000 in
set_option maxHeartbeats 4000000 in
theorem putSkip_any (wd : Int) (k : Key) (t : Tr) (q : Nat) (w : World) (hk : k.length ≤ 32) (hlow : lowT t) (h : TrR wd w w.heap.size t q) (hfk : (t.find k).1 ≠ k) :
    Calls Try.prog 21 #[treeV wd (some ⟨q, 0, none⟩), .string (bs k), .string (bs [])] w (PutsR wd w (some t)) := by
  have hY : Blk ((w.alloc (.cells #[.int .i64 wd, .pointer (some ⟨q, 0, none⟩)] 37)).alloc (.cells #[.int .i64 0, .pointer none] 37)) (w.heap.size + 1) 37 #[.int .i64 0, .pointer none] := by
    have := Blk.new (w.alloc (.cells #[.int .i64 wd, .pointer (some ⟨q, 0, none⟩)] 37)) 37 #[.int .i64 0, .pointer none]
    simpa using this
  have hX : Blk ((w.alloc (.cells #[.int .i64 wd, .pointer (some ⟨q, 0, none⟩)] 37)).alloc (.cells #[.int .i64 0, .pointer none] 37)) w.heap.size 37 #[.int .i64 wd, .pointer (some ⟨q, 0, none⟩)] := (Blk.new w 37 #[.int .i64 wd, .pointer (some ⟨q, 0, none⟩)]).alloc _
  have hB0 : Below w.heap.size w ((w.alloc (.cells #[.int .i64 wd, .pointer (some ⟨q, 0, none⟩)] 37)).alloc (.cells #[.int .i64 0, .pointer none] 37)) := ((Below.refl _ _).alloc (Nat.le_refl _) _).alloc (by simp) _
  have d1 : decide ((32 : Int) < (k.length : Int)) = false := decide_eq_false (by omega)
  have hf := find_any wd k t q _ (by omega) hlow (h.up hB0)
  have hR0 := Lib.hid (h.up hB0)
  clear h hlow
  generalize t.find k = x at *
  obtain ⟨xk, xv⟩ := x
  simp only at hfk
  have d4 : (xk == k) = false := beq_eq_false_iff_ne.2 hfk
  unfold treeV at *
  generalize hw0 : ((w.alloc (.cells #[.int .i64 wd, .pointer (some ⟨q, 0, none⟩)] 37)).alloc (.cells #[.int .i64 0, .pointer none] 37)) = w0 at *
  have c0 := (hX.cell 0).trans (show _ = some (Value.int .i64 wd) from rfl)
  have c1 := (hX.cell 1).trans (show _ = some (Value.pointer (some ⟨q, 0, none⟩)) from rfl)
  go_enter Try.func21, Try.ntmps21
  go_wp2_with fail
  refine hf.mono ?_
  rintro e w1 ⟨q', rfl, ⟨hq', hblk⟩, hb1⟩
  have l0 := (hblk.cell 0).trans (show _ = some (Value.string (bs xk)) from rfl)
  have hX1 := hX.below hb1 hX.lt
  have hY1 := hY.below hb1 hY.lt
  have hB1 := callBelow hB0 hb1
  have hR1 := hR0.out.up hb1
  clear hf
  clear hX hY hB0 hb1 c0 c1
  have c0 := (hX1.cell 0).trans (show _ = some (Value.int .i64 wd) from rfl)
  have c1 := (hX1.cell 1).trans (show _ = some (Value.pointer (some ⟨q, 0, none⟩)) from rfl)
  have y0 := (hY1.cell 0).trans (show _ = some (Value.int .i64 0) from rfl)
  have y1 := (hY1.cell 1).trans (show _ = some (Value.pointer none) from rfl)
  have f0 := hY1.frozen 0
  have f1 := hY1.frozen 1
  go_wp2_with fail
  have hz := (hY1.set_ 0 (.int .i64 wd)).set_ 1 (.pointer (some ⟨q, 0, none⟩))
  have z0 := (hz.cell 0).trans (show _ = some (Value.int .i64 wd) from rfl)
  have z1 := (hz.cell 1).trans (show _ = some (Value.pointer (some ⟨q, 0, none⟩)) from rfl)
  exact bodyPost_ret (v := .tuple #[.agg #[.int .i64 wd, .pointer (some ⟨q, 0, none⟩)], .int .i64 0]) (by simp [results, Try.results21, go_sem, z0, z1]) rfl ⟨_, rfl, OTrR.put hY1 _ _ (t := some t) ⟨q, rfl, hR1⟩, (hB1.setCell (by simp) _).setCell (by simp) _⟩
set_option maxRecDepth 100000 in
set_option maxHeartbeats 4000000 in
theorem putDel_any (wd : Int) (k : Key) (t : Tr) (q : Nat) (w : World) (hk : k.length ≤ 32) (hlow : lowT t) (h : TrR wd w w.heap.size t q) (hfk : (t.find k).1 = k) :
    Calls Try.prog 21 #[treeV wd (some ⟨q, 0, none⟩), .string (bs k), .string (bs [])] w (PutsR wd w (t.del k)) := by
  have hY : Blk ((w.alloc (.cells #[.int .i64 wd, .pointer (some ⟨q, 0, none⟩)] 37)).alloc (.cells #[.int .i64 0, .pointer none] 37)) (w.heap.size + 1) 37 #[.int .i64 0, .pointer none] := by
    have := Blk.new (w.alloc (.cells #[.int .i64 wd, .pointer (some ⟨q, 0, none⟩)] 37)) 37 #[.int .i64 0, .pointer none]
    simpa using this
  have hX : Blk ((w.alloc (.cells #[.int .i64 wd, .pointer (some ⟨q, 0, none⟩)] 37)).alloc (.cells #[.int .i64 0, .pointer none] 37)) w.heap.size 37 #[.int .i64 wd, .pointer (some ⟨q, 0, none⟩)] := (Blk.new w 37 #[.int .i64 wd, .pointer (some ⟨q, 0, none⟩)]).alloc _
  have hB0 : Below w.heap.size w ((w.alloc (.cells #[.int .i64 wd, .pointer (some ⟨q, 0, none⟩)] 37)).alloc (.cells #[.int .i64 0, .pointer none] 37)) := ((Below.refl _ _).alloc (Nat.le_refl _) _).alloc (by simp) _
  have d1 : decide ((32 : Int) < (k.length : Int)) = false := decide_eq_false (by omega)
  have hf := find_any wd k t q _ (by omega) hlow (h.up hB0)
  have hR0 := Lib.hid (h.up hB0)
  have HC := Lib.hid (fun W hh => without_any wd k (some ⟨q, 0, none⟩) (by omega) t q W hlow hh)
  clear h hlow
  generalize hT : t.del k = T at *
  clear hT
  generalize t.find k = x at *
  obtain ⟨xk, xv⟩ := x
  simp only at hfk
  subst hfk
  unfold treeV at *
  generalize hw0 : ((w.alloc (.cells #[.int .i64 wd, .pointer (some ⟨q, 0, none⟩)] 37)).alloc (.cells #[.int .i64 0, .pointer none] 37)) = w0 at *
  have c0 := (hX.cell 0).trans (show _ = some (Value.int .i64 wd) from rfl)
  have c1 := (hX.cell 1).trans (show _ = some (Value.pointer (some ⟨q, 0, none⟩)) from rfl)
  go_enter Try.func21, Try.ntmps21
  go_wp2_with fail
  refine hf.mono ?_
  rintro e w1 ⟨q', rfl, ⟨hq', hblk⟩, hb1⟩
  have l0 := (hblk.cell 0).trans (show _ = some (Value.string (bs xk)) from rfl)
  have hX1 := hX.below hb1 hX.lt
  have hY1 := hY.below hb1 hY.lt
  have hB1 := callBelow hB0 hb1
  have hR1 := hR0.out.up hb1
  clear hf
  clear hX hY hB0 hb1 c0 c1
  have c0 := (hX1.cell 0).trans (show _ = some (Value.int .i64 wd) from rfl)
  have c1 := (hX1.cell 1).trans (show _ = some (Value.pointer (some ⟨q, 0, none⟩)) from rfl)
  have y0 := (hY1.cell 0).trans (show _ = some (Value.int .i64 0) from rfl)
  have y1 := (hY1.cell 1).trans (show _ = some (Value.pointer none) from rfl)
  have f0 := hY1.frozen 0
  have f1 := hY1.frozen 1
  go_wp2_with fail
  have hgl : w.heap.size + 1 < w1.heap.size := hY1.lt
  go_region_held3 (fun W => (W.cell? ⟨w.heap.size, 0, none⟩ = some (.int .i64 wd) ∧ W.cell? ⟨w.heap.size, 1, none⟩ = some (.pointer (some ⟨q, 0, none⟩))) ∧ Below (w.heap.size + 1) w1 W) (refine keepPut c0 c1 ?_ <;> first | exact Below.refl _ _ | exact Below.drew (Below.refl _ _) | exact And.right (by assumption) | exact Below.drew (And.right (by assumption)) | exact callB (And.right (by assumption)) (Nat.le_of_lt hgl) (by assumption) | exact (hk2.setCell (by simp) _).setCell (by simp) _) (first
    | (go_at_call 86
       with_reducible refine (HC.out _ (by first | exact hR1 | exact hR1.up (Below.drew (Below.refl _ _)))).mono ?_
       rintro e w2 ⟨a', rfl, ho, hb2⟩
       have hY2 := hY1.drew.below hb2 hY1.lt
       have hB2 := callBelow (w0 := w) (W := w1.drew) hB1.drew hb2
       have hk2 := callB (B := w.heap.size + 1) (Below.drew (Below.refl _ w1)) (Nat.le_of_lt hgl) hb2
       have y0 := (hY2.cell 0).trans (show _ = some (Value.int .i64 0) from rfl)
       have y1 := (hY2.cell 1).trans (show _ = some (Value.pointer none) from rfl)
       have f0 := hY2.frozen 0
       have f1 := hY2.frozen 1))
  all_goals
    go_wp2_with fail
    have hz := (hY2.set_ 0 (.int .i64 wd)).set_ 1 (.pointer a')
    have z0 := (hz.cell 0).trans (show _ = some (Value.int .i64 wd) from rfl)
    have z1 := (hz.cell 1).trans (show _ = some (Value.pointer a') from rfl)
    exact bodyPost_ret (v := .tuple #[.agg #[.int .i64 wd, .pointer a'], .int .i64 0]) (by simp [results, Try.results21, go_sem, z0, z1]) rfl ⟨_, rfl, OTrR.put hY2 _ _ ho, (hB2.setCell (by simp) _).setCell (by simp) _⟩
set_option maxRecDepth 100000 in
set_option maxHeartbeats 4000000 in
theorem putLeaf_any (wd : Int) (k v : Key) (w : World) (hk : k.length ≤ 32) (hv : v.length ≤ 4096) (hv0 : v ≠ []) :
    Calls Try.prog 21 #[treeV wd none, .string (bs k), .string (bs v)] w (PutsR wd w (some (.leaf k v))) := by
  have hY : Blk ((w.alloc (.cells #[.int .i64 wd, .pointer none] 37)).alloc (.cells #[.int .i64 0, .pointer none] 37)) (w.heap.size + 1) 37 #[.int .i64 0, .pointer none] := by
    have := Blk.new (w.alloc (.cells #[.int .i64 wd, .pointer none] 37)) 37 #[.int .i64 0, .pointer none]
    simpa using this
  have hX : Blk ((w.alloc (.cells #[.int .i64 wd, .pointer none] 37)).alloc (.cells #[.int .i64 0, .pointer none] 37)) w.heap.size 37 #[.int .i64 wd, .pointer none] := (Blk.new w 37 #[.int .i64 wd, .pointer none]).alloc _
  have hB0 : Below w.heap.size w ((w.alloc (.cells #[.int .i64 wd, .pointer none] 37)).alloc (.cells #[.int .i64 0, .pointer none] 37)) := ((Below.refl _ _).alloc (Nat.le_refl _) _).alloc (by simp) _
  have d1 : decide ((32 : Int) < (k.length : Int)) = false := decide_eq_false (by omega)
  have d2 : decide ((4096 : Int) < (v.length : Int)) = false := decide_eq_false (by omega)
  have d3 : (v == []) = false := beq_eq_false_iff_ne.2 hv0
  have hf := findNo_any wd k ((w.alloc (.cells #[.int .i64 wd, .pointer none] 37)).alloc (.cells #[.int .i64 0, .pointer none] 37))
  have HC := Lib.hid (fun W => leaf_any wd k v none W (by unfold maxLen; omega) (by unfold maxLen; omega))
  unfold treeV at *
  generalize hw0 : ((w.alloc (.cells #[.int .i64 wd, .pointer none] 37)).alloc (.cells #[.int .i64 0, .pointer none] 37)) = w0 at *
  have c0 := (hX.cell 0).trans (show _ = some (Value.int .i64 wd) from rfl)
  have c1 := (hX.cell 1).trans (show _ = some (Value.pointer none) from rfl)
  go_enter Try.func21, Try.ntmps21
  go_wp2_with fail
  refine hf.mono ?_
  rintro e w1 ⟨rfl, hb1⟩
  have hX1 := hX.below hb1 hX.lt
  have hY1 := hY.below hb1 hY.lt
  have hB1 := callBelow hB0 hb1
  clear hf
  clear hX hY hB0 hb1 c0 c1
  have c0 := (hX1.cell 0).trans (show _ = some (Value.int .i64 wd) from rfl)
  have c1 := (hX1.cell 1).trans (show _ = some (Value.pointer none) from rfl)
  have y0 := (hY1.cell 0).trans (show _ = some (Value.int .i64 0) from rfl)
  have y1 := (hY1.cell 1).trans (show _ = some (Value.pointer none) from rfl)
  have f0 := hY1.frozen 0
  have f1 := hY1.frozen 1
  go_wp2_with fail
  have hgl : w.heap.size + 1 < w1.heap.size := hY1.lt
  go_region_held3 (fun W => (W.cell? ⟨w.heap.size, 0, none⟩ = some (.int .i64 wd) ∧ W.cell? ⟨w.heap.size, 1, none⟩ = some (.pointer none)) ∧ Below (w.heap.size + 1) w1 W) (refine keepPut c0 c1 ?_ <;> first | exact Below.refl _ _ | exact Below.drew (Below.refl _ _) | exact And.right (by assumption) | exact Below.drew (And.right (by assumption)) | exact callB (And.right (by assumption)) (Nat.le_of_lt hgl) (by assumption) | exact (hk2.setCell (by simp) _).setCell (by simp) _) (first
    | (go_at_call 87
       with_reducible refine (HC.out _).mono ?_
       rintro e w2 ⟨q2, rfl, ho, hb2⟩
       have hY2 := hY1.drew.below hb2 hY1.lt
       have hB2 := callBelow (w0 := w) (W := w1.drew) hB1.drew hb2
       have hk2 := callB (B := w.heap.size + 1) (Below.drew (Below.refl _ w1)) (Nat.le_of_lt hgl) hb2
       have y0 := (hY2.cell 0).trans (show _ = some (Value.int .i64 0) from rfl)
       have y1 := (hY2.cell 1).trans (show _ = some (Value.pointer none) from rfl)
       have f0 := hY2.frozen 0
       have f1 := hY2.frozen 1))
  all_goals
    go_wp2_with fail
    have hz := (hY2.set_ 0 (.int .i64 wd)).set_ 1 (.pointer (some ⟨q2, 0, none⟩))
    have z0 := (hz.cell 0).trans (show _ = some (Value.int .i64 wd) from rfl)
    have z1 := (hz.cell 1).trans (show _ = some (Value.pointer (some ⟨q2, 0, none⟩)) from rfl)
    exact bodyPost_ret (v := .tuple #[.agg #[.int .i64 wd, .pointer (some ⟨q2, 0, none⟩)], .int .i64 0]) (by simp [results, Try.results21, go_sem, z0, z1]) rfl ⟨_, rfl, OTrR.put hY2 _ _ (t := some _) ⟨q2, rfl, ho⟩, (hB2.setCell (by simp) _).setCell (by simp) _⟩
set_option maxRecDepth 100000 in
set_option maxHeartbeats 4000000 in
theorem putUpd_any (wd : Int) (k v : Key) (t : Tr) (q : Nat) (w : World) (hk : k.length ≤ 32) (hv : v.length ≤ 4096) (hv0 : v ≠ []) (hlow : lowT t) (h : TrR wd w w.heap.size t q) (hfk : (t.find k).1 = k) :
    Calls Try.prog 21 #[treeV wd (some ⟨q, 0, none⟩), .string (bs k), .string (bs v)] w (PutsR wd w (some (t.upd k v))) := by
  have hY : Blk ((w.alloc (.cells #[.int .i64 wd, .pointer (some ⟨q, 0, none⟩)] 37)).alloc (.cells #[.int .i64 0, .pointer none] 37)) (w.heap.size + 1) 37 #[.int .i64 0, .pointer none] := by
    have := Blk.new (w.alloc (.cells #[.int .i64 wd, .pointer (some ⟨q, 0, none⟩)] 37)) 37 #[.int .i64 0, .pointer none]
    simpa using this
  have hX : Blk ((w.alloc (.cells #[.int .i64 wd, .pointer (some ⟨q, 0, none⟩)] 37)).alloc (.cells #[.int .i64 0, .pointer none] 37)) w.heap.size 37 #[.int .i64 wd, .pointer (some ⟨q, 0, none⟩)] := (Blk.new w 37 #[.int .i64 wd, .pointer (some ⟨q, 0, none⟩)]).alloc _
  have hB0 : Below w.heap.size w ((w.alloc (.cells #[.int .i64 wd, .pointer (some ⟨q, 0, none⟩)] 37)).alloc (.cells #[.int .i64 0, .pointer none] 37)) := ((Below.refl _ _).alloc (Nat.le_refl _) _).alloc (by simp) _
  have d1 : decide ((32 : Int) < (k.length : Int)) = false := decide_eq_false (by omega)
  have d2 : decide ((4096 : Int) < (v.length : Int)) = false := decide_eq_false (by omega)
  have d3 : (v == []) = false := beq_eq_false_iff_ne.2 hv0
  have hf := find_any wd k t q _ (by omega) hlow (h.up hB0)
  have hR0 := Lib.hid (h.up hB0)
  have HC := Lib.hid (fun W hh => withUpd_any wd k v (some ⟨q, 0, none⟩) (by omega) (by unfold maxLen; omega) t q W hlow hh)
  clear h hlow
  generalize hT : t.upd k v = T at *
  clear hT
  generalize t.find k = x at *
  obtain ⟨xk, xv⟩ := x
  simp only at hfk
  subst hfk
  unfold treeV at *
  generalize hw0 : ((w.alloc (.cells #[.int .i64 wd, .pointer (some ⟨q, 0, none⟩)] 37)).alloc (.cells #[.int .i64 0, .pointer none] 37)) = w0 at *
  have c0 := (hX.cell 0).trans (show _ = some (Value.int .i64 wd) from rfl)
  have c1 := (hX.cell 1).trans (show _ = some (Value.pointer (some ⟨q, 0, none⟩)) from rfl)
  go_enter Try.func21, Try.ntmps21
  go_wp2_with fail
  refine hf.mono ?_
  rintro e w1 ⟨q', rfl, ⟨hq', hblk⟩, hb1⟩
  have l0 := (hblk.cell 0).trans (show _ = some (Value.string (bs xk)) from rfl)
  have hX1 := hX.below hb1 hX.lt
  have hY1 := hY.below hb1 hY.lt
  have hB1 := callBelow hB0 hb1
  have hR1 := hR0.out.up hb1
  clear hf
  clear hX hY hB0 hb1 c0 c1
  have c0 := (hX1.cell 0).trans (show _ = some (Value.int .i64 wd) from rfl)
  have c1 := (hX1.cell 1).trans (show _ = some (Value.pointer (some ⟨q, 0, none⟩)) from rfl)
  have y0 := (hY1.cell 0).trans (show _ = some (Value.int .i64 0) from rfl)
  have y1 := (hY1.cell 1).trans (show _ = some (Value.pointer none) from rfl)
  have f0 := hY1.frozen 0
  have f1 := hY1.frozen 1
  go_wp2_with fail
  have hgl : w.heap.size + 1 < w1.heap.size := hY1.lt
  go_region_held3 (fun W => (W.cell? ⟨w.heap.size, 0, none⟩ = some (.int .i64 wd) ∧ W.cell? ⟨w.heap.size, 1, none⟩ = some (.pointer (some ⟨q, 0, none⟩))) ∧ Below (w.heap.size + 1) w1 W) (refine keepPut c0 c1 ?_ <;> first | exact Below.refl _ _ | exact Below.drew (Below.refl _ _) | exact And.right (by assumption) | exact Below.drew (And.right (by assumption)) | exact callB (And.right (by assumption)) (Nat.le_of_lt hgl) (by assumption) | exact (hk2.setCell (by simp) _).setCell (by simp) _) (first
    | (go_at_call 88
       with_reducible refine (HC.out _ (by first | exact hR1 | exact hR1.up (Below.drew (Below.refl _ _)))).mono ?_
       rintro e w2 ⟨q2, rfl, ho, hb2⟩
       have hY2 := hY1.drew.below hb2 hY1.lt
       have hB2 := callBelow (w0 := w) (W := w1.drew) hB1.drew hb2
       have hk2 := callB (B := w.heap.size + 1) (Below.drew (Below.refl _ w1)) (Nat.le_of_lt hgl) hb2
       have y0 := (hY2.cell 0).trans (show _ = some (Value.int .i64 0) from rfl)
       have y1 := (hY2.cell 1).trans (show _ = some (Value.pointer none) from rfl)
       have f0 := hY2.frozen 0
       have f1 := hY2.frozen 1))
  all_goals
    go_wp2_with fail
    have hz := (hY2.set_ 0 (.int .i64 wd)).set_ 1 (.pointer (some ⟨q2, 0, none⟩))
    have z0 := (hz.cell 0).trans (show _ = some (Value.int .i64 wd) from rfl)
    have z1 := (hz.cell 1).trans (show _ = some (Value.pointer (some ⟨q2, 0, none⟩)) from rfl)
    exact bodyPost_ret (v := .tuple #[.agg #[.int .i64 wd, .pointer (some ⟨q2, 0, none⟩)], .int .i64 0]) (by simp [results, Try.results21, go_sem, z0, z1]) rfl ⟨_, rfl, OTrR.put hY2 _ _ (t := some _) ⟨q2, rfl, ho⟩, (hB2.setCell (by simp) _).setCell (by simp) _⟩
set_option maxRecDepth 100000 in
set_option maxHeartbeats 4000000 in
theorem putIns_any (wd : Int) (k v : Key) (t : Tr) (q : Nat) (p : Nat) (w : World) (hk : k.length ≤ 32) (hv : v.length ≤ 4096) (hv0 : v ≠ []) (hlow : lowT t) (h : TrR wd w w.heap.size t q) (hfk : (t.find k).1 ≠ k) (hx : (t.find k).1.length ≤ 32) (hp1 : Agree k (t.find k).1 p) (hp2 : bitB k p ≠ bitB (t.find k).1 p) (hp : p ≤ 1000000) :
    Calls Try.prog 21 #[treeV wd (some ⟨q, 0, none⟩), .string (bs k), .string (bs v)] w (PutsR wd w (some (t.ins k v p))) := by
  have hY : Blk ((w.alloc (.cells #[.int .i64 wd, .pointer (some ⟨q, 0, none⟩)] 37)).alloc (.cells #[.int .i64 0, .pointer none] 37)) (w.heap.size + 1) 37 #[.int .i64 0, .pointer none] := by
    have := Blk.new (w.alloc (.cells #[.int .i64 wd, .pointer (some ⟨q, 0, none⟩)] 37)) 37 #[.int .i64 0, .pointer none]
    simpa using this
  have hX : Blk ((w.alloc (.cells #[.int .i64 wd, .pointer (some ⟨q, 0, none⟩)] 37)).alloc (.cells #[.int .i64 0, .pointer none] 37)) w.heap.size 37 #[.int .i64 wd, .pointer (some ⟨q, 0, none⟩)] := (Blk.new w 37 #[.int .i64 wd, .pointer (some ⟨q, 0, none⟩)]).alloc _
  have hB0 : Below w.heap.size w ((w.alloc (.cells #[.int .i64 wd, .pointer (some ⟨q, 0, none⟩)] 37)).alloc (.cells #[.int .i64 0, .pointer none] 37)) := ((Below.refl _ _).alloc (Nat.le_refl _) _).alloc (by simp) _
  have d1 : decide ((32 : Int) < (k.length : Int)) = false := decide_eq_false (by omega)
  have d2 : decide ((4096 : Int) < (v.length : Int)) = false := decide_eq_false (by omega)
  have d3 : (v == []) = false := beq_eq_false_iff_ne.2 hv0
  have hf := find_any wd k t q _ (by omega) hlow (h.up hB0)
  have hR0 := Lib.hid (h.up hB0)
  have HC := Lib.hid (fun W hh => withIns_any wd k v p (some ⟨q, 0, none⟩) (by omega) (by unfold maxLen; omega) hp t q W hlow hh)
  have HP := Lib.hid (fun W => parts_any k (t.find k).1 p W (by omega) (by omega) hp1 hp2 (by omega))
  clear hp1 hp2 hp hx
  clear h hlow
  generalize hT : t.ins k v p = T at *
  clear hT
  generalize t.find k = x at *
  obtain ⟨xk, xv⟩ := x
  simp only at hfk HP
  have d4 : (xk == k) = false := beq_eq_false_iff_ne.2 hfk
  have hsz : ((w.alloc (.cells #[.int .i64 wd, .pointer (some ⟨q, 0, none⟩)] 37)).alloc (.cells #[.int .i64 0, .pointer none] 37)).heap.size = w.heap.size + 2 := by simp
  unfold treeV at *
  generalize hw0 : ((w.alloc (.cells #[.int .i64 wd, .pointer (some ⟨q, 0, none⟩)] 37)).alloc (.cells #[.int .i64 0, .pointer none] 37)) = w0 at *
  have c0 := (hX.cell 0).trans (show _ = some (Value.int .i64 wd) from rfl)
  have c1 := (hX.cell 1).trans (show _ = some (Value.pointer (some ⟨q, 0, none⟩)) from rfl)
  go_enter Try.func21, Try.ntmps21
  go_wp2_with fail
  refine hf.mono ?_
  rintro e w1 ⟨q', rfl, ⟨hq', hblk⟩, hb1⟩
  have l0 := (hblk.cell 0).trans (show _ = some (Value.string (bs xk)) from rfl)
  have hX1 := hX.below hb1 hX.lt
  have hY1 := hY.below hb1 hY.lt
  have hB1 := callBelow hB0 hb1
  have hR1 := hR0.out.up hb1
  clear hf
  clear hX hY hB0 hb1 c0 c1
  have c0 := (hX1.cell 0).trans (show _ = some (Value.int .i64 wd) from rfl)
  have c1 := (hX1.cell 1).trans (show _ = some (Value.pointer (some ⟨q, 0, none⟩)) from rfl)
  have y0 := (hY1.cell 0).trans (show _ = some (Value.int .i64 0) from rfl)
  have y1 := (hY1.cell 1).trans (show _ = some (Value.pointer none) from rfl)
  have f0 := hY1.frozen 0
  have f1 := hY1.frozen 1
  go_wp2_with fail
  have hgl : w.heap.size + 1 < w1.heap.size := hY1.lt
  have hql : q' < w.heap.size := by
    have n1 := Blk.ne_ hblk hX1 (by decide)
    have n2 := Blk.ne_ hblk hY1 (by decide)
    rw [hsz] at hq'
    omega
  go_region_held3 (fun W => (W.cell? ⟨w.heap.size, 0, none⟩ = some (.int .i64 wd) ∧ W.cell? ⟨w.heap.size, 1, none⟩ = some (.pointer (some ⟨q, 0, none⟩)) ∧ W.cell? ⟨q', 0, none⟩ = some (.string (bs xk))) ∧ Below (w.heap.size + 1) w1 W) (refine keepPut2 c0 c1 hql l0 ?_ <;> first | exact Below.refl _ _ | exact Below.drew (Below.refl _ _) | exact And.right (by assumption) | exact Below.drew (And.right (by assumption)) | exact callB (And.right (by assumption)) (Nat.le_of_lt hgl) (by assumption) | exact (hk2.setCell (by simp) _).setCell (by simp) _) (first
    | (go_at_call 88
       with_reducible refine (HC.out _ (by first | exact hR1 | exact hR1.up (Below.drew (Below.refl _ _)))).mono ?_
       rintro e w2 ⟨q2, rfl, ho, hb2⟩
       have hY2 := hY1.drew.below hb2 hY1.lt
       have hB2 := callBelow (w0 := w) (W := w1.drew) hB1.drew hb2
       have hk2 := callB (B := w.heap.size + 1) (Below.drew (Below.refl _ w1)) (Nat.le_of_lt hgl) hb2
       have y0 := (hY2.cell 0).trans (show _ = some (Value.int .i64 0) from rfl)
       have y1 := (hY2.cell 1).trans (show _ = some (Value.pointer none) from rfl)
       have f0 := hY2.frozen 0
       have f1 := hY2.frozen 1)
    | (go_at_call 89
       with_reducible refine (HP.out _).mono ?_
       rintro e w2 ⟨rfl, rfl⟩))
  all_goals
    go_wp2_with fail
    have hz := (hY2.set_ 0 (.int .i64 wd)).set_ 1 (.pointer (some ⟨q2, 0, none⟩))
    have z0 := (hz.cell 0).trans (show _ = some (Value.int .i64 wd) from rfl)
    have z1 := (hz.cell 1).trans (show _ = some (Value.pointer (some ⟨q2, 0, none⟩)) from rfl)
    exact bodyPost_ret (v := .tuple #[.agg #[.int .i64 wd, .pointer (some ⟨q2, 0, none⟩)], .int .i64 0]) (by simp [results, Try.results21, go_sem, z0, z1]) rfl ⟨_, rfl, OTrR.put hY2 _ _ (t := some _) ⟨q2, rfl, ho⟩, (hB2.setCell (by simp) _).setCell (by simp) _⟩
end Go.Proofs.Ytkcnoljjilhpoaa
