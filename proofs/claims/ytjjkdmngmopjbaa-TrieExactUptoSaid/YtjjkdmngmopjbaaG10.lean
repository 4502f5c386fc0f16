/- Of the texts Tri9, Tri10, Dig1, Dig2, Dig3, Dig4, Dig5, Hold0, Hold1. -/
import Derived.Test.YtjjkdmngmopjbaaProg
import Derived.Test.YtjjkdmngmopjbaaG09
import Derived.Deep.RegionHeld3
import Derived.Deep.RegionLaw
import Derived.Deep.QuietTactic
import Derived.BigQuiet
import Derived.Test.YtjjkdmngmopjbaaG08
import Derived.Test.YtjjkdmngmopjbaaG06
namespace Go.Proofs.Ytjjkdmngmopjbaa
open Go.RowKit
theorem TrR.far {wd : Int} {W : World} {g : Nat} {cs : Array Value} (hg : Blk W g 53 cs) {p : Addr} (hp : p.block = g) (u : Value) : ∀ {t : Tr} {B q : Nat}, TrR wd W B t q → TrR wd (W.setCell p u) B t q
  | .leaf k v, B, q, h => ⟨h.1, h.2.far (fun e => Blk.ne_ h.2 hg (by decide) (e.trans hp)) u⟩
  | .fork _ l r, B, q, h => by
    obtain ⟨h1, a, b, h2, h3, h4⟩ := h
    exact ⟨h1, a, b, h2.far (fun e => Blk.ne_ h2 hg (by decide) (e.trans hp)) u, h3.far hg hp u, h4.far hg hp u⟩
theorem OTrR.far {wd : Int} {W : World} {g : Nat} {cs : Array Value} (hg : Blk W g 53 cs) {p : Addr} (hp : p.block = g) (u : Value) : ∀ {t : Option Tr} {B : Nat} {a : Option Addr}, OTrR wd W B t a → OTrR wd (W.setCell p u) B t a
  | none, _, _, h => h
  | some _, _, _, ⟨q, e, h⟩ => ⟨q, e, h.far hg hp u⟩
theorem OTrR.put {wd : Int} {W : World} {g : Nat} {cs : Array Value} (hg : Blk W g 53 cs) (u v : Value) {t : Option Tr} {a : Option Addr} (h : OTrR wd W W.heap.size t a) : OTrR wd ((W.setCell ⟨g, 0, none⟩ u).setCell ⟨g, 1, none⟩ v) ((W.setCell ⟨g, 0, none⟩ u).setCell ⟨g, 1, none⟩ v).heap.size t a := by
  have h2 := (h.far hg (p := ⟨g, 0, none⟩) rfl u).far (hg.set_ 0 u) (p := ⟨g, 1, none⟩) rfl v
  have e : ((W.setCell ⟨g, 0, none⟩ u).setCell ⟨g, 1, none⟩ v).heap.size = W.heap.size := by simp [World.setCell]
  rw [e]
  exact h2
theorem callB {B : Nat} {w0 W W' : World} (h : Below B w0 W) (hB : B ≤ w0.heap.size) (hb : Below W.heap.size W W') : Below B w0 W' := h.trans (hb.mono (Nat.le_trans hB h.size))
/-- the list of what is in it -/
def Puts_ (wd : Int) (w : World) (k v : Key) (t : Option Tr) (e : Ending) (w' : World) : Prop :=
  ∃ (t' : Option Tr) (a' : Option Addr), e = .returned (.tuple #[treeV wd a', .int .i64 0]) ∧ Tr.ook t' ∧ Tr.oitems t' = putL k v (Tr.oitems t) ∧ OTrR wd w' w'.heap.size t' a' ∧ Below w.heap.size w w'
def PutsR (wd : Int) (w : World) (t' : Option Tr) (e : Ending) (w' : World) : Prop :=
  ∃ (a' : Option Addr), e = .returned (.tuple #[.agg #[.int .i64 wd, .pointer a'], .int .i64 0]) ∧ OTrR wd w' w'.heap.size t' a' ∧ Below w.heap.size w w'
set_option maxRecDepth 100000 in
set_option maxHeartbeats 4000000 in
theorem putLong_any (wd : Int) (k v : Key) (a : Option Addr) (w : World) (h : 32 < k.length ∨ 4096 < v.length) :
    Calls Try.prog 15 #[treeV wd a, .string (bs k), .string (bs v)] w fun e w' => e = .returned (.tuple #[treeV 0 none, .int .i64 3]) ∧ Below w.heap.size w w' := by
  have hcase : (decide ((32 : Int) < (k.length : Int)) = true) ∨ (decide ((32 : Int) < (k.length : Int)) = false ∧ decide ((4096 : Int) < (v.length : Int)) = true) := by
    by_cases hn : 32 < k.length
    · exact .inl (decide_eq_true (by omega))
    · exact .inr ⟨decide_eq_false (by omega), decide_eq_true (by omega)⟩
  clear h
  have hY : Blk ((w.alloc (.cells #[.int .i64 wd, .pointer a] 53)).alloc (.cells #[.int .i64 0, .pointer none] 53)) (w.heap.size + 1) 53 #[.int .i64 0, .pointer none] := by
    have := Blk.new (w.alloc (.cells #[.int .i64 wd, .pointer a] 53)) 53 #[.int .i64 0, .pointer none]
    simpa using this
  have hB0 : Below w.heap.size w ((w.alloc (.cells #[.int .i64 wd, .pointer a] 53)).alloc (.cells #[.int .i64 0, .pointer none] 53)) := ((Below.refl _ _).alloc (Nat.le_refl _) _).alloc (by simp) _
  have y0 := (hY.cell 0).trans (show _ = some (Value.int .i64 0) from rfl)
  have y1 := (hY.cell 1).trans (show _ = some (Value.pointer none) from rfl)
  have f0 := hY.frozen 0
  have f1 := hY.frozen 1
  unfold treeV
  rcases hcase with d1 | ⟨d1, d2⟩
  all_goals
    go_enter Try.func15, Try.ntmps15
    go_wp2_with fail
    generalize ((w.alloc (.cells #[.int .i64 wd, .pointer a] 53)).alloc (.cells #[.int .i64 0, .pointer none] 53)) = w0 at *
    refine bodyPost_ret (v := .tuple #[.agg #[.int .i64 0, .pointer none], .int .i64 3]) (by simp [results, Try.results15, go_sem, y0, y1]) rfl ⟨rfl, hB0⟩
/-- the walk of Put up to the answer of find -/
theorem keepPut {w0 W : World} {g : Nat} {u v : Value} (c0 : w0.cell? ⟨g, 0, none⟩ = some u) (c1 : w0.cell? ⟨g, 1, none⟩ = some v) (h : Below (g + 1) w0 W) : (W.cell? ⟨g, 0, none⟩ = some u ∧ W.cell? ⟨g, 1, none⟩ = some v) ∧ Below (g + 1) w0 W :=
  ⟨⟨(h.cell (p := ⟨g, 0, none⟩) (Nat.lt_succ_self _)).trans c0, (h.cell (p := ⟨g, 1, none⟩) (Nat.lt_succ_self _)).trans c1⟩, h⟩
theorem keepPut2 {w0 W : World} {g q : Nat} {u v s : Value} (c0 : w0.cell? ⟨g, 0, none⟩ = some u) (c1 : w0.cell? ⟨g, 1, none⟩ = some v) (hq : q < g) (c2 : w0.cell? ⟨q, 0, none⟩ = some s) (h : Below (g + 1) w0 W) : (W.cell? ⟨g, 0, none⟩ = some u ∧ W.cell? ⟨g, 1, none⟩ = some v ∧ W.cell? ⟨q, 0, none⟩ = some s) ∧ Below (g + 1) w0 W :=
  ⟨⟨(h.cell (p := ⟨g, 0, none⟩) (Nat.lt_succ_self _)).trans c0, (h.cell (p := ⟨g, 1, none⟩) (Nat.lt_succ_self _)).trans c1, (h.cell (p := ⟨q, 0, none⟩) (Nat.lt_succ_of_lt hq)).trans c2⟩, h⟩
set_option maxRecDepth 100000 in
set_option maxHeartbeats 4000000 in
theorem putSkipNo_any (wd : Int) (k : Key) (w : World) (hk : k.length ≤ 32) :
    Calls Try.prog 15 #[treeV wd none, .string (bs k), .string (bs [])] w (PutsR wd w none) := by
  have hY : Blk ((w.alloc (.cells #[.int .i64 wd, .pointer none] 53)).alloc (.cells #[.int .i64 0, .pointer none] 53)) (w.heap.size + 1) 53 #[.int .i64 0, .pointer none] := by
    have := Blk.new (w.alloc (.cells #[.int .i64 wd, .pointer none] 53)) 53 #[.int .i64 0, .pointer none]
    simpa using this
  have hX : Blk ((w.alloc (.cells #[.int .i64 wd, .pointer none] 53)).alloc (.cells #[.int .i64 0, .pointer none] 53)) w.heap.size 53 #[.int .i64 wd, .pointer none] := (Blk.new w 53 #[.int .i64 wd, .pointer none]).alloc _
  have hB0 : Below w.heap.size w ((w.alloc (.cells #[.int .i64 wd, .pointer none] 53)).alloc (.cells #[.int .i64 0, .pointer none] 53)) := ((Below.refl _ _).alloc (Nat.le_refl _) _).alloc (by simp) _
  have d1 : decide ((32 : Int) < (k.length : Int)) = false := decide_eq_false (by omega)
  have hf := findNo_any wd k ((w.alloc (.cells #[.int .i64 wd, .pointer none] 53)).alloc (.cells #[.int .i64 0, .pointer none] 53))
  unfold treeV at *
  generalize hw0 : ((w.alloc (.cells #[.int .i64 wd, .pointer none] 53)).alloc (.cells #[.int .i64 0, .pointer none] 53)) = w0 at *
  have c0 := (hX.cell 0).trans (show _ = some (Value.int .i64 wd) from rfl)
  have c1 := (hX.cell 1).trans (show _ = some (Value.pointer none) from rfl)
  go_enter Try.func15, Try.ntmps15
  go_wp2_with fail
  refine hf.mono ?_
  rintro e w1 ⟨rfl, hb1⟩
  have hX1 := hX.below hb1 hX.lt
  have hY1 := hY.below hb1 hY.lt
  have hB1 := callBelow hB0 hb1
  clear hf
  clear hX hY hB0 hb1 c0 c1
  have c0 := (hX1.cell 0).trans (show _ = some (Value.int .i64 wd) from rfl)
  have c1 := (hX1.cell 1).trans (show _ = some (Value.pointer none) from rfl)
  have y0 := (hY1.cell 0).trans (show _ = some (Value.int .i64 0) from rfl)
  have y1 := (hY1.cell 1).trans (show _ = some (Value.pointer none) from rfl)
  have f0 := hY1.frozen 0
  have f1 := hY1.frozen 1
  go_wp2_with fail
  have hz := (hY1.set_ 0 (.int .i64 wd)).set_ 1 (.pointer none)
  have z0 := (hz.cell 0).trans (show _ = some (Value.int .i64 wd) from rfl)
  have z1 := (hz.cell 1).trans (show _ = some (Value.pointer none) from rfl)
  exact bodyPost_ret (v := .tuple #[.agg #[.int .i64 wd, .pointer none], .int .i64 0]) (by simp [results, Try.results15, go_sem, z0, z1]) rfl ⟨_, rfl, OTrR.put hY1 _ _ (t := none) rfl, (hB1.setCell (by simp) _).setCell (by simp) _⟩
set_option maxRecDepth 100000 in
set_option maxHeartbeats 4000000 in
theorem putSkip_any (wd : Int) (k : Key) (t : Tr) (q : Nat) (w : World) (hk : k.length ≤ 32) (hlow : lowT t) (h : TrR wd w w.heap.size t q) (hfk : (t.find k).1 ≠ k) :
    Calls Try.prog 15 #[treeV wd (some ⟨q, 0, none⟩), .string (bs k), .string (bs [])] w (PutsR wd w (some t)) := by
  have hY : Blk ((w.alloc (.cells #[.int .i64 wd, .pointer (some ⟨q, 0, none⟩)] 53)).alloc (.cells #[.int .i64 0, .pointer none] 53)) (w.heap.size + 1) 53 #[.int .i64 0, .pointer none] := by
    have := Blk.new (w.alloc (.cells #[.int .i64 wd, .pointer (some ⟨q, 0, none⟩)] 53)) 53 #[.int .i64 0, .pointer none]
    simpa using this
  have hX : Blk ((w.alloc (.cells #[.int .i64 wd, .pointer (some ⟨q, 0, none⟩)] 53)).alloc (.cells #[.int .i64 0, .pointer none] 53)) w.heap.size 53 #[.int .i64 wd, .pointer (some ⟨q, 0, none⟩)] := (Blk.new w 53 #[.int .i64 wd, .pointer (some ⟨q, 0, none⟩)]).alloc _
  have hB0 : Below w.heap.size w ((w.alloc (.cells #[.int .i64 wd, .pointer (some ⟨q, 0, none⟩)] 53)).alloc (.cells #[.int .i64 0, .pointer none] 53)) := ((Below.refl _ _).alloc (Nat.le_refl _) _).alloc (by simp) _
  have d1 : decide ((32 : Int) < (k.length : Int)) = false := decide_eq_false (by omega)
  have hf := find_any wd k t q _ (by omega) hlow (h.up hB0)
  have hR0 := Lib.hid (h.up hB0)
  clear h hlow
  generalize t.find k = x at *
  obtain ⟨xk, xv⟩ := x
  simp only at hfk
  have d4 : (xk == k) = false := beq_eq_false_iff_ne.2 hfk
  unfold treeV at *
  generalize hw0 : ((w.alloc (.cells #[.int .i64 wd, .pointer (some ⟨q, 0, none⟩)] 53)).alloc (.cells #[.int .i64 0, .pointer none] 53)) = w0 at *
  have c0 := (hX.cell 0).trans (show _ = some (Value.int .i64 wd) from rfl)
  have c1 := (hX.cell 1).trans (show _ = some (Value.pointer (some ⟨q, 0, none⟩)) from rfl)
  go_enter Try.func15, Try.ntmps15
  go_wp2_with fail
  refine hf.mono ?_
  rintro e w1 ⟨q', rfl, ⟨hq', hblk⟩, hb1⟩
  have l0 := (hblk.cell 0).trans (show _ = some (Value.string (bs xk)) from rfl)
  have hX1 := hX.below hb1 hX.lt
  have hY1 := hY.below hb1 hY.lt
  have hB1 := callBelow hB0 hb1
  have hR1 := hR0.out.up hb1
  clear hf
  clear hX hY hB0 hb1 c0 c1
  have c0 := (hX1.cell 0).trans (show _ = some (Value.int .i64 wd) from rfl)
  have c1 := (hX1.cell 1).trans (show _ = some (Value.pointer (some ⟨q, 0, none⟩)) from rfl)
  have y0 := (hY1.cell 0).trans (show _ = some (Value.int .i64 0) from rfl)
  have y1 := (hY1.cell 1).trans (show _ = some (Value.pointer none) from rfl)
  have f0 := hY1.frozen 0
  have f1 := hY1.frozen 1
  go_wp2_with fail
  have hz := (hY1.set_ 0 (.int .i64 wd)).set_ 1 (.pointer (some ⟨q, 0, none⟩))
  have z0 := (hz.cell 0).trans (show _ = some (Value.int .i64 wd) from rfl)
  have z1 := (hz.cell 1).trans (show _ = some (Value.pointer (some ⟨q, 0, none⟩)) from rfl)
  exact bodyPost_ret (v := .tuple #[.agg #[.int .i64 wd, .pointer (some ⟨q, 0, none⟩)], .int .i64 0]) (by simp [results, Try.results15, go_sem, z0, z1]) rfl ⟨_, rfl, OTrR.put hY1 _ _ (t := some t) ⟨q, rfl, hR1⟩, (hB1.setCell (by simp) _).setCell (by simp) _⟩
set_option maxRecDepth 100000 in
set_option maxHeartbeats 4000000 in
theorem putDel_any (wd : Int) (k : Key) (t : Tr) (q : Nat) (w : World) (hk : k.length ≤ 32) (hlow : lowT t) (h : TrR wd w w.heap.size t q) (hfk : (t.find k).1 = k) :
    Calls Try.prog 15 #[treeV wd (some ⟨q, 0, none⟩), .string (bs k), .string (bs [])] w (PutsR wd w (t.del k)) := by
  have hY : Blk ((w.alloc (.cells #[.int .i64 wd, .pointer (some ⟨q, 0, none⟩)] 53)).alloc (.cells #[.int .i64 0, .pointer none] 53)) (w.heap.size + 1) 53 #[.int .i64 0, .pointer none] := by
    have := Blk.new (w.alloc (.cells #[.int .i64 wd, .pointer (some ⟨q, 0, none⟩)] 53)) 53 #[.int .i64 0, .pointer none]
    simpa using this
  have hX : Blk ((w.alloc (.cells #[.int .i64 wd, .pointer (some ⟨q, 0, none⟩)] 53)).alloc (.cells #[.int .i64 0, .pointer none] 53)) w.heap.size 53 #[.int .i64 wd, .pointer (some ⟨q, 0, none⟩)] := (Blk.new w 53 #[.int .i64 wd, .pointer (some ⟨q, 0, none⟩)]).alloc _
  have hB0 : Below w.heap.size w ((w.alloc (.cells #[.int .i64 wd, .pointer (some ⟨q, 0, none⟩)] 53)).alloc (.cells #[.int .i64 0, .pointer none] 53)) := ((Below.refl _ _).alloc (Nat.le_refl _) _).alloc (by simp) _
  have d1 : decide ((32 : Int) < (k.length : Int)) = false := decide_eq_false (by omega)
  have hf := find_any wd k t q _ (by omega) hlow (h.up hB0)
  have hR0 := Lib.hid (h.up hB0)
  have HC := Lib.hid (fun W hh => without_any wd k (some ⟨q, 0, none⟩) (by omega) t q W hlow hh)
  clear h hlow
  generalize hT : t.del k = T at *
  clear hT
  generalize t.find k = x at *
  obtain ⟨xk, xv⟩ := x
  simp only at hfk
  subst hfk
  unfold treeV at *
  generalize hw0 : ((w.alloc (.cells #[.int .i64 wd, .pointer (some ⟨q, 0, none⟩)] 53)).alloc (.cells #[.int .i64 0, .pointer none] 53)) = w0 at *
  have c0 := (hX.cell 0).trans (show _ = some (Value.int .i64 wd) from rfl)
  have c1 := (hX.cell 1).trans (show _ = some (Value.pointer (some ⟨q, 0, none⟩)) from rfl)
  go_enter Try.func15, Try.ntmps15
  go_wp2_with fail
  refine hf.mono ?_
  rintro e w1 ⟨q', rfl, ⟨hq', hblk⟩, hb1⟩
  have l0 := (hblk.cell 0).trans (show _ = some (Value.string (bs xk)) from rfl)
  have hX1 := hX.below hb1 hX.lt
  have hY1 := hY.below hb1 hY.lt
  have hB1 := callBelow hB0 hb1
  have hR1 := hR0.out.up hb1
  clear hf
  clear hX hY hB0 hb1 c0 c1
  have c0 := (hX1.cell 0).trans (show _ = some (Value.int .i64 wd) from rfl)
  have c1 := (hX1.cell 1).trans (show _ = some (Value.pointer (some ⟨q, 0, none⟩)) from rfl)
  have y0 := (hY1.cell 0).trans (show _ = some (Value.int .i64 0) from rfl)
  have y1 := (hY1.cell 1).trans (show _ = some (Value.pointer none) from rfl)
  have f0 := hY1.frozen 0
  have f1 := hY1.frozen 1
  go_wp2_with fail
  have hgl : w.heap.size + 1 < w1.heap.size := hY1.lt
  go_region_held3 (fun W => (W.cell? ⟨w.heap.size, 0, none⟩ = some (.int .i64 wd) ∧ W.cell? ⟨w.heap.size, 1, none⟩ = some (.pointer (some ⟨q, 0, none⟩))) ∧ Below (w.heap.size + 1) w1 W) (refine keepPut c0 c1 ?_ <;> first | exact Below.refl _ _ | exact Below.drew (Below.refl _ _) | exact And.right (by assumption) | exact Below.drew (And.right (by assumption)) | exact callB (And.right (by assumption)) (Nat.le_of_lt hgl) (by assumption) | exact (hk2.setCell (by simp) _).setCell (by simp) _) (first
    | (go_at_call 56
       with_reducible refine (HC.out _ (by first | exact hR1 | exact hR1.up (Below.drew (Below.refl _ _)))).mono ?_
       rintro e w2 ⟨a', rfl, ho, hb2⟩
       have hY2 := hY1.drew.below hb2 hY1.lt
       have hB2 := callBelow (w0 := w) (W := w1.drew) hB1.drew hb2
       have hk2 := callB (B := w.heap.size + 1) (Below.drew (Below.refl _ w1)) (Nat.le_of_lt hgl) hb2
       have y0 := (hY2.cell 0).trans (show _ = some (Value.int .i64 0) from rfl)
       have y1 := (hY2.cell 1).trans (show _ = some (Value.pointer none) from rfl)
       have f0 := hY2.frozen 0
       have f1 := hY2.frozen 1))
  all_goals
    go_wp2_with fail
    have hz := (hY2.set_ 0 (.int .i64 wd)).set_ 1 (.pointer a')
    have z0 := (hz.cell 0).trans (show _ = some (Value.int .i64 wd) from rfl)
    have z1 := (hz.cell 1).trans (show _ = some (Value.pointer a') from rfl)
    exact bodyPost_ret (v := .tuple #[.agg #[.int .i64 wd, .pointer a'], .int .i64 0]) (by simp [results, Try.results15, go_sem, z0, z1]) rfl ⟨_, rfl, OTrR.put hY2 _ _ ho, (hB2.setCell (by simp) _).setCell (by simp) _⟩
set_option maxRecDepth 100000 in
set_option maxHeartbeats 4000000 in
theorem putLeaf_any (wd : Int) (k v : Key) (w : World) (hk : k.length ≤ 32) (hv : v.length ≤ 4096) (hv0 : v ≠ []) :
    Calls Try.prog 15 #[treeV wd none, .string (bs k), .string (bs v)] w (PutsR wd w (some (.leaf k v))) := by
  have hY : Blk ((w.alloc (.cells #[.int .i64 wd, .pointer none] 53)).alloc (.cells #[.int .i64 0, .pointer none] 53)) (w.heap.size + 1) 53 #[.int .i64 0, .pointer none] := by
    have := Blk.new (w.alloc (.cells #[.int .i64 wd, .pointer none] 53)) 53 #[.int .i64 0, .pointer none]
    simpa using this
  have hX : Blk ((w.alloc (.cells #[.int .i64 wd, .pointer none] 53)).alloc (.cells #[.int .i64 0, .pointer none] 53)) w.heap.size 53 #[.int .i64 wd, .pointer none] := (Blk.new w 53 #[.int .i64 wd, .pointer none]).alloc _
  have hB0 : Below w.heap.size w ((w.alloc (.cells #[.int .i64 wd, .pointer none] 53)).alloc (.cells #[.int .i64 0, .pointer none] 53)) := ((Below.refl _ _).alloc (Nat.le_refl _) _).alloc (by simp) _
  have d1 : decide ((32 : Int) < (k.length : Int)) = false := decide_eq_false (by omega)
  have d2 : decide ((4096 : Int) < (v.length : Int)) = false := decide_eq_false (by omega)
  have d3 : (v == []) = false := beq_eq_false_iff_ne.2 hv0
  have hf := findNo_any wd k ((w.alloc (.cells #[.int .i64 wd, .pointer none] 53)).alloc (.cells #[.int .i64 0, .pointer none] 53))
  have HC := Lib.hid (fun W => leaf_any wd k v none W (by unfold maxLen; omega) (by unfold maxLen; omega))
  unfold treeV at *
  generalize hw0 : ((w.alloc (.cells #[.int .i64 wd, .pointer none] 53)).alloc (.cells #[.int .i64 0, .pointer none] 53)) = w0 at *
  have c0 := (hX.cell 0).trans (show _ = some (Value.int .i64 wd) from rfl)
  have c1 := (hX.cell 1).trans (show _ = some (Value.pointer none) from rfl)
  go_enter Try.func15, Try.ntmps15
  go_wp2_with fail
  refine hf.mono ?_
  rintro e w1 ⟨rfl, hb1⟩
  have hX1 := hX.below hb1 hX.lt
  have hY1 := hY.below hb1 hY.lt
  have hB1 := callBelow hB0 hb1
  clear hf
  clear hX hY hB0 hb1 c0 c1
  have c0 := (hX1.cell 0).trans (show _ = some (Value.int .i64 wd) from rfl)
  have c1 := (hX1.cell 1).trans (show _ = some (Value.pointer none) from rfl)
  have y0 := (hY1.cell 0).trans (show _ = some (Value.int .i64 0) from rfl)
  have y1 := (hY1.cell 1).trans (show _ = some (Value.pointer none) from rfl)
  have f0 := hY1.frozen 0
  have f1 := hY1.frozen 1
  go_wp2_with fail
  have hgl : w.heap.size + 1 < w1.heap.size := hY1.lt
  go_region_held3 (fun W => (W.cell? ⟨w.heap.size, 0, none⟩ = some (.int .i64 wd) ∧ W.cell? ⟨w.heap.size, 1, none⟩ = some (.pointer none)) ∧ Below (w.heap.size + 1) w1 W) (refine keepPut c0 c1 ?_ <;> first | exact Below.refl _ _ | exact Below.drew (Below.refl _ _) | exact And.right (by assumption) | exact Below.drew (And.right (by assumption)) | exact callB (And.right (by assumption)) (Nat.le_of_lt hgl) (by assumption) | exact (hk2.setCell (by simp) _).setCell (by simp) _) (first
    | (go_at_call 57
       with_reducible refine (HC.out _).mono ?_
       rintro e w2 ⟨q2, rfl, ho, hb2⟩
       have hY2 := hY1.drew.below hb2 hY1.lt
       have hB2 := callBelow (w0 := w) (W := w1.drew) hB1.drew hb2
       have hk2 := callB (B := w.heap.size + 1) (Below.drew (Below.refl _ w1)) (Nat.le_of_lt hgl) hb2
       have y0 := (hY2.cell 0).trans (show _ = some (Value.int .i64 0) from rfl)
       have y1 := (hY2.cell 1).trans (show _ = some (Value.pointer none) from rfl)
       have f0 := hY2.frozen 0
       have f1 := hY2.frozen 1))
  all_goals
    go_wp2_with fail
    have hz := (hY2.set_ 0 (.int .i64 wd)).set_ 1 (.pointer (some ⟨q2, 0, none⟩))
    have z0 := (hz.cell 0).trans (show _ = some (Value.int .i64 wd) from rfl)
    have z1 := (hz.cell 1).trans (show _ = some (Value.pointer (some ⟨q2, 0, none⟩)) from rfl)
    exact bodyPost_ret (v := .tuple #[.agg #[.int .i64 wd, .pointer (some ⟨q2, 0, none⟩)], .int .i64 0]) (by simp [results, Try.results15, go_sem, z0, z1]) rfl ⟨_, rfl, OTrR.put hY2 _ _ (t := some _) ⟨q2, rfl, ho⟩, (hB2.setCell (by simp) _).setCell (by simp) _⟩
set_option maxRecDepth 100000 in
set_option maxHeartbeats 4000000 in
theorem putUpd_any (wd : Int) (k v : Key) (t : Tr) (q : Nat) (w : World) (hk : k.length ≤ 32) (hv : v.length ≤ 4096) (hv0 : v ≠ []) (hlow : lowT t) (h : TrR wd w w.heap.size t q) (hfk : (t.find k).1 = k) :
    Calls Try.prog 15 #[treeV wd (some ⟨q, 0, none⟩), .string (bs k), .string (bs v)] w (PutsR wd w (some (t.upd k v))) := by
  have hY : Blk ((w.alloc (.cells #[.int .i64 wd, .pointer (some ⟨q, 0, none⟩)] 53)).alloc (.cells #[.int .i64 0, .pointer none] 53)) (w.heap.size + 1) 53 #[.int .i64 0, .pointer none] := by
    have := Blk.new (w.alloc (.cells #[.int .i64 wd, .pointer (some ⟨q, 0, none⟩)] 53)) 53 #[.int .i64 0, .pointer none]
    simpa using this
  have hX : Blk ((w.alloc (.cells #[.int .i64 wd, .pointer (some ⟨q, 0, none⟩)] 53)).alloc (.cells #[.int .i64 0, .pointer none] 53)) w.heap.size 53 #[.int .i64 wd, .pointer (some ⟨q, 0, none⟩)] := (Blk.new w 53 #[.int .i64 wd, .pointer (some ⟨q, 0, none⟩)]).alloc _
  have hB0 : Below w.heap.size w ((w.alloc (.cells #[.int .i64 wd, .pointer (some ⟨q, 0, none⟩)] 53)).alloc (.cells #[.int .i64 0, .pointer none] 53)) := ((Below.refl _ _).alloc (Nat.le_refl _) _).alloc (by simp) _
  have d1 : decide ((32 : Int) < (k.length : Int)) = false := decide_eq_false (by omega)
  have d2 : decide ((4096 : Int) < (v.length : Int)) = false := decide_eq_false (by omega)
  have d3 : (v == []) = false := beq_eq_false_iff_ne.2 hv0
  have hf := find_any wd k t q _ (by omega) hlow (h.up hB0)
  have hR0 := Lib.hid (h.up hB0)
  have HC := Lib.hid (fun W hh => withUpd_any wd k v (some ⟨q, 0, none⟩) (by omega) (by unfold maxLen; omega) t q W hlow hh)
  clear h hlow
  generalize hT : t.upd k v = T at *
  clear hT
  generalize t.find k = x at *
  obtain ⟨xk, xv⟩ := x
  simp only at hfk
  subst hfk
  unfold treeV at *
  generalize hw0 : ((w.alloc (.cells #[.int .i64 wd, .pointer (some ⟨q, 0, none⟩)] 53)).alloc (.cells #[.int .i64 0, .pointer none] 53)) = w0 at *
  have c0 := (hX.cell 0).trans (show _ = some (Value.int .i64 wd) from rfl)
  have c1 := (hX.cell 1).trans (show _ = some (Value.pointer (some ⟨q, 0, none⟩)) from rfl)
  go_enter Try.func15, Try.ntmps15
  go_wp2_with fail
  refine hf.mono ?_
  rintro e w1 ⟨q', rfl, ⟨hq', hblk⟩, hb1⟩
  have l0 := (hblk.cell 0).trans (show _ = some (Value.string (bs xk)) from rfl)
  have hX1 := hX.below hb1 hX.lt
  have hY1 := hY.below hb1 hY.lt
  have hB1 := callBelow hB0 hb1
  have hR1 := hR0.out.up hb1
  clear hf
  clear hX hY hB0 hb1 c0 c1
  have c0 := (hX1.cell 0).trans (show _ = some (Value.int .i64 wd) from rfl)
  have c1 := (hX1.cell 1).trans (show _ = some (Value.pointer (some ⟨q, 0, none⟩)) from rfl)
  have y0 := (hY1.cell 0).trans (show _ = some (Value.int .i64 0) from rfl)
  have y1 := (hY1.cell 1).trans (show _ = some (Value.pointer none) from rfl)
  have f0 := hY1.frozen 0
  have f1 := hY1.frozen 1
  go_wp2_with fail
  have hgl : w.heap.size + 1 < w1.heap.size := hY1.lt
  go_region_held3 (fun W => (W.cell? ⟨w.heap.size, 0, none⟩ = some (.int .i64 wd) ∧ W.cell? ⟨w.heap.size, 1, none⟩ = some (.pointer (some ⟨q, 0, none⟩))) ∧ Below (w.heap.size + 1) w1 W) (refine keepPut c0 c1 ?_ <;> first | exact Below.refl _ _ | exact Below.drew (Below.refl _ _) | exact And.right (by assumption) | exact Below.drew (And.right (by assumption)) | exact callB (And.right (by assumption)) (Nat.le_of_lt hgl) (by assumption) | exact (hk2.setCell (by simp) _).setCell (by simp) _) (first
    | (go_at_call 58
       with_reducible refine (HC.out _ (by first | exact hR1 | exact hR1.up (Below.drew (Below.refl _ _)))).mono ?_
       rintro e w2 ⟨q2, rfl, ho, hb2⟩
       have hY2 := hY1.drew.below hb2 hY1.lt
       have hB2 := callBelow (w0 := w) (W := w1.drew) hB1.drew hb2
       have hk2 := callB (B := w.heap.size + 1) (Below.drew (Below.refl _ w1)) (Nat.le_of_lt hgl) hb2
       have y0 := (hY2.cell 0).trans (show _ = some (Value.int .i64 0) from rfl)
       have y1 := (hY2.cell 1).trans (show _ = some (Value.pointer none) from rfl)
       have f0 := hY2.frozen 0
       have f1 := hY2.frozen 1))
  all_goals
    go_wp2_with fail
    have hz := (hY2.set_ 0 (.int .i64 wd)).set_ 1 (.pointer (some ⟨q2, 0, none⟩))
    have z0 := (hz.cell 0).trans (show _ = some (Value.int .i64 wd) from rfl)
    have z1 := (hz.cell 1).trans (show _ = some (Value.pointer (some ⟨q2, 0, none⟩)) from rfl)
    exact bodyPost_ret (v := .tuple #[.agg #[.int .i64 wd, .pointer (some ⟨q2, 0, none⟩)], .int .i64 0]) (by simp [results, Try.results15, go_sem, z0, z1]) rfl ⟨_, rfl, OTrR.put hY2 _ _ (t := some _) ⟨q2, rfl, ho⟩, (hB2.setCell (by simp) _).setCell (by simp) _⟩
set_option maxRecDepth 100000 in
set_option maxHeartbeats 4000000 in
theorem putIns_any (wd : Int) (k v : Key) (t : Tr) (q : Nat) (p : Nat) (w : World) (hk : k.length ≤ 32) (hv : v.length ≤ 4096) (hv0 : v ≠ []) (hlow : lowT t) (h : TrR wd w w.heap.size t q) (hfk : (t.find k).1 ≠ k) (hx : (t.find k).1.length ≤ 32) (hp1 : Agree k (t.find k).1 p) (hp2 : bitB k p ≠ bitB (t.find k).1 p) (hp : p ≤ 1000000) :
    Calls Try.prog 15 #[treeV wd (some ⟨q, 0, none⟩), .string (bs k), .string (bs v)] w (PutsR wd w (some (t.ins k v p))) := by
  have hY : Blk ((w.alloc (.cells #[.int .i64 wd, .pointer (some ⟨q, 0, none⟩)] 53)).alloc (.cells #[.int .i64 0, .pointer none] 53)) (w.heap.size + 1) 53 #[.int .i64 0, .pointer none] := by
    have := Blk.new (w.alloc (.cells #[.int .i64 wd, .pointer (some ⟨q, 0, none⟩)] 53)) 53 #[.int .i64 0, .pointer none]
    simpa using this
  have hX : Blk ((w.alloc (.cells #[.int .i64 wd, .pointer (some ⟨q, 0, none⟩)] 53)).alloc (.cells #[.int .i64 0, .pointer none] 53)) w.heap.size 53 #[.int .i64 wd, .pointer (some ⟨q, 0, none⟩)] := (Blk.new w 53 #[.int .i64 wd, .pointer (some ⟨q, 0, none⟩)]).alloc _
  have hB0 : Below w.heap.size w ((w.alloc (.cells #[.int .i64 wd, .pointer (some ⟨q, 0, none⟩)] 53)).alloc (.cells #[.int .i64 0, .pointer none] 53)) := ((Below.refl _ _).alloc (Nat.le_refl _) _).alloc (by simp) _
  have d1 : decide ((32 : Int) < (k.length : Int)) = false := decide_eq_false (by omega)
  have d2 : decide ((4096 : Int) < (v.length : Int)) = false := decide_eq_false (by omega)
  have d3 : (v == []) = false := beq_eq_false_iff_ne.2 hv0
  have hf := find_any wd k t q _ (by omega) hlow (h.up hB0)
  have hR0 := Lib.hid (h.up hB0)
  have HC := Lib.hid (fun W hh => withIns_any wd k v p (some ⟨q, 0, none⟩) (by omega) (by unfold maxLen; omega) hp t q W hlow hh)
  have HP := Lib.hid (fun W => parts_any k (t.find k).1 p W (by omega) (by omega) hp1 hp2 (by omega))
  clear hp1 hp2 hp hx
  clear h hlow
  generalize hT : t.ins k v p = T at *
  clear hT
  generalize t.find k = x at *
  obtain ⟨xk, xv⟩ := x
  simp only at hfk HP
  have d4 : (xk == k) = false := beq_eq_false_iff_ne.2 hfk
  have hsz : ((w.alloc (.cells #[.int .i64 wd, .pointer (some ⟨q, 0, none⟩)] 53)).alloc (.cells #[.int .i64 0, .pointer none] 53)).heap.size = w.heap.size + 2 := by simp
  unfold treeV at *
  generalize hw0 : ((w.alloc (.cells #[.int .i64 wd, .pointer (some ⟨q, 0, none⟩)] 53)).alloc (.cells #[.int .i64 0, .pointer none] 53)) = w0 at *
  have c0 := (hX.cell 0).trans (show _ = some (Value.int .i64 wd) from rfl)
  have c1 := (hX.cell 1).trans (show _ = some (Value.pointer (some ⟨q, 0, none⟩)) from rfl)
  go_enter Try.func15, Try.ntmps15
  go_wp2_with fail
  refine hf.mono ?_
  rintro e w1 ⟨q', rfl, ⟨hq', hblk⟩, hb1⟩
  have l0 := (hblk.cell 0).trans (show _ = some (Value.string (bs xk)) from rfl)
  have hX1 := hX.below hb1 hX.lt
  have hY1 := hY.below hb1 hY.lt
  have hB1 := callBelow hB0 hb1
  have hR1 := hR0.out.up hb1
  clear hf
  clear hX hY hB0 hb1 c0 c1
  have c0 := (hX1.cell 0).trans (show _ = some (Value.int .i64 wd) from rfl)
  have c1 := (hX1.cell 1).trans (show _ = some (Value.pointer (some ⟨q, 0, none⟩)) from rfl)
  have y0 := (hY1.cell 0).trans (show _ = some (Value.int .i64 0) from rfl)
  have y1 := (hY1.cell 1).trans (show _ = some (Value.pointer none) from rfl)
  have f0 := hY1.frozen 0
  have f1 := hY1.frozen 1
  go_wp2_with fail
  have hgl : w.heap.size + 1 < w1.heap.size := hY1.lt
  have hql : q' < w.heap.size := by
    have n1 := Blk.ne_ hblk hX1 (by decide)
    have n2 := Blk.ne_ hblk hY1 (by decide)
    rw [hsz] at hq'
    omega
  go_region_held3 (fun W => (W.cell? ⟨w.heap.size, 0, none⟩ = some (.int .i64 wd) ∧ W.cell? ⟨w.heap.size, 1, none⟩ = some (.pointer (some ⟨q, 0, none⟩)) ∧ W.cell? ⟨q', 0, none⟩ = some (.string (bs xk))) ∧ Below (w.heap.size + 1) w1 W) (refine keepPut2 c0 c1 hql l0 ?_ <;> first | exact Below.refl _ _ | exact Below.drew (Below.refl _ _) | exact And.right (by assumption) | exact Below.drew (And.right (by assumption)) | exact callB (And.right (by assumption)) (Nat.le_of_lt hgl) (by assumption) | exact (hk2.setCell (by simp) _).setCell (by simp) _) (first
    | (go_at_call 58
       with_reducible refine (HC.out _ (by first | exact hR1 | exact hR1.up (Below.drew (Below.refl _ _)))).mono ?_
       rintro e w2 ⟨q2, rfl, ho, hb2⟩
       have hY2 := hY1.drew.below hb2 hY1.lt
       have hB2 := callBelow (w0 := w) (W := w1.drew) hB1.drew hb2
       have hk2 := callB (B := w.heap.size + 1) (Below.drew (Below.refl _ w1)) (Nat.le_of_lt hgl) hb2
       have y0 := (hY2.cell 0).trans (show _ = some (Value.int .i64 0) from rfl)
       have y1 := (hY2.cell 1).trans (show _ = some (Value.pointer none) from rfl)
       have f0 := hY2.frozen 0
       have f1 := hY2.frozen 1)
    | (go_at_call 59
       with_reducible refine (HP.out _).mono ?_
       rintro e w2 ⟨rfl, rfl⟩))
  all_goals
    go_wp2_with fail
    have hz := (hY2.set_ 0 (.int .i64 wd)).set_ 1 (.pointer (some ⟨q2, 0, none⟩))
    have z0 := (hz.cell 0).trans (show _ = some (Value.int .i64 wd) from rfl)
    have z1 := (hz.cell 1).trans (show _ = some (Value.pointer (some ⟨q2, 0, none⟩)) from rfl)
    exact bodyPost_ret (v := .tuple #[.agg #[.int .i64 wd, .pointer (some ⟨q2, 0, none⟩)], .int .i64 0]) (by simp [results, Try.results15, go_sem, z0, z1]) rfl ⟨_, rfl, OTrR.put hY2 _ _ (t := some _) ⟨q2, rfl, ho⟩, (hB2.setCell (by simp) _).setCell (by simp) _⟩
end Go.Proofs.Ytjjkdmngmopjbaa

namespace Go.Proofs.Ytjjkdmngmopjbaa
open Go.RowKit
theorem PutsR.puts {wd : Int} {w : World} {k v : Key} {t t' : Option Tr} {e : Ending} {w' : World} (h1 : Tr.ook t') (h2 : Tr.oitems t' = putL k v (Tr.oitems t)) (h : PutsR wd w t' e w') : Puts_ wd w k v t e w' := by
  obtain ⟨a', e1, e2, e3⟩ := h
  exact ⟨t', a', e1, h1, h2, e2, e3⟩
theorem put_any (wd : Int) (k v : Key) (t : Option Tr) (a : Option Addr) (w : World) (hk : k.length ≤ 32) (hv : v.length ≤ 4096) (hok : Tr.ook t) (hkl : ∀ x, x ∈ Tr.oitems t → x.1.length ≤ 32) (h : OTrR wd w w.heap.size t a) :
    Calls Try.prog 15 #[treeV wd a, .string (bs k), .string (bs v)] w (Puts_ wd w k v t) := by
  cases t with
  | none =>
    obtain rfl : a = none := h
    by_cases hv0 : v = []
    · subst hv0
      exact (putSkipNo_any wd k w hk).mono fun e w' => PutsR.puts (t := none) (t' := none) trivial rfl
    · exact (putLeaf_any wd k v w hk hv hv0).mono fun e w' => PutsR.puts (t := none) (t' := some _) trivial (putL_nil hv0).symm
  | some t =>
    obtain ⟨q, rfl, hq⟩ := h
    have hlow := low_of hok hkl
    by_cases hf : (t.find k).1 = k
    · by_cases hv0 : v = []
      · subst hv0
        obtain ⟨e1, e2⟩ := Tr.put_del hok hf
        exact (putDel_any wd k t q w hk hlow hq hf).mono fun e w' => PutsR.puts (t := some t) e1 e2
      · obtain ⟨e1, e2⟩ := Tr.put_upd (v := v) hok hv0 hf
        exact (putUpd_any wd k v t q w hk hv hv0 hlow hq hf).mono fun e w' => PutsR.puts (t := some t) (t' := some _) e1 e2
    · by_cases hv0 : v = []
      · subst hv0
        exact (putSkip_any wd k t q w hk hlow hq hf).mono fun e w' => PutsR.puts (t := some t) (t' := some t) hok (Tr.put_skip hok hf)
      · obtain ⟨p, hp1, hp2⟩ := parts_ex (a := k) (b := (t.find k).1) (fun e => hf e.symm)
        have hx := hkl _ (t.find_mem k)
        have hp := parts_lt hp2 hk hx
        obtain ⟨e1, e2⟩ := Tr.put_ins (v := v) hok hv0 hp1 hp2
        exact (putIns_any wd k v t q p w hk hv hv0 hlow hq hf hx hp1 hp2 (by omega)).mono fun e w' => PutsR.puts (t := some t) (t' := some _) e1 e2
set_option maxRecDepth 100000 in
theorem new_any (wd : Int) (w : World) :
    Calls Try.prog 14 #[.int .i64 wd] w fun e w' => e = .returned (treeV wd none) ∧ Below w.heap.size w w' := by
  have hY : Blk (w.alloc (.cells #[.int .i64 0, .pointer none] 53)) w.heap.size 53 #[.int .i64 0, .pointer none] := Blk.new _ _ _
  have y0 := (hY.cell 0).trans (show _ = some (Value.int .i64 0) from rfl)
  have y1 := (hY.cell 1).trans (show _ = some (Value.pointer none) from rfl)
  have f0 := hY.frozen 0
  have f1 := hY.frozen 1
  have hB0 : Below w.heap.size w (w.alloc (.cells #[.int .i64 0, .pointer none] 53)) := (Below.refl _ _).alloc (Nat.le_refl _) _
  unfold treeV
  generalize hw0 : w.alloc (.cells #[.int .i64 0, .pointer none] 53) = w0 at *
  go_enter Try.func14, Try.ntmps14
  go_wp2_with fail
  have hz := (hY.set_ 0 (.int .i64 wd)).set_ 1 (.pointer none)
  have z0 := (hz.cell 0).trans (show _ = some (Value.int .i64 wd) from rfl)
  have z1 := (hz.cell 1).trans (show _ = some (Value.pointer none) from rfl)
  exact bodyPost_ret (v := .agg #[.int .i64 wd, .pointer none]) (by simp [results, Try.results14, go_sem, z0, z1]) rfl ⟨rfl, (hB0.setCell (by simp) _).setCell (by simp) _⟩
/-- the digest of a tree -/
def rootT (wd : Int) : Option Tr → Int
  | none => ofS wd 5 []
  | some t => ofS wd 5 [be (digT wd t) 8]
theorem keepOne {w0 W : World} {g : Nat} {u : Value} (hg : g < w0.heap.size) (c0 : w0.cell? ⟨g, 0, none⟩ = some u) (h : Below w0.heap.size w0 W) : W.cell? ⟨g, 0, none⟩ = some u ∧ Below w0.heap.size w0 W := ⟨(h.cell (p := ⟨g, 0, none⟩) hg).trans c0, h⟩
set_option maxRecDepth 100000 in
theorem rootNo_any (wd : Int) (w : World) :
    Calls Try.prog 19 #[treeV wd none] w fun e w' => e = .returned (.int .u64 (ofS wd 5 [])) ∧ Below w.heap.size w w' := by
  have hX : Blk (w.alloc (.cells #[.int .i64 wd, .pointer none] 53)) w.heap.size 53 #[.int .i64 wd, .pointer none] := Blk.new _ _ _
  have hB0 : Below w.heap.size w (w.alloc (.cells #[.int .i64 wd, .pointer none] 53)) := (Below.refl _ _).alloc (Nat.le_refl _) _
  unfold treeV
  generalize hw0 : w.alloc (.cells #[.int .i64 wd, .pointer none] 53) = w0 at *
  have c0 := (hX.cell 0).trans (show _ = some (Value.int .i64 wd) from rfl)
  have c1 := (hX.cell 1).trans (show _ = some (Value.pointer none) from rfl)
  have HO := Lib.hid (fun (A' : Option Addr) c' W (hs : Strs W W.heap.size A' []) => ofImage_any wd 5 [] A' c' _ W hs (Nat.le_refl _) (by simp [maxLen]) (by intro p hp; simp at hp))
  generalize ofS wd 5 [] = D at *
  go_enter Try.func19, Try.ntmps19
  go_wp2_with fail
  go_region_held3 (fun W => W.cell? ⟨w.heap.size, 0, none⟩ = some (.int .i64 wd) ∧ Below w0.heap.size w0 W) (refine keepOne hX.lt c0 ?_ <;> first | exact Below.refl _ _ | exact Below.drew (Below.refl _ _) | exact And.right (by assumption) | exact Below.drew (And.right (by assumption)) | exact callBelow (And.right (by assumption)) (by assumption)) (first
    | (go_at_call 60
       refine (wholeNo_any _ _).mono ?_
       rintro e w2 ⟨x, rfl, ⟨A', c', rfl, hs', hf'⟩, hb2⟩)
    | (go_at_call 46
       refine (HO.out _ _ _ (by assumption)).mono ?_
       rintro e w2 ⟨rfl, hb2⟩))
  all_goals
    go_wp2_with fail
    go_ret
    exact ⟨rfl, callBelow hB0 (And.right (by assumption))⟩
theorem keepRoot {w0 W : World} {g q : Nat} {wd D : Int} {A : Option Addr} {t : TypeId} (hX : Blk w0 g t #[.int .i64 wd, .pointer A]) (hq : q < w0.heap.size) (c5 : w0.cell? ⟨q, 5, none⟩ = some (.int .u64 D)) (h : Below w0.heap.size w0 W) : (W.cell? ⟨g, 0, none⟩ = some (.int .i64 wd) ∧ W.cell? ⟨g, 1, none⟩ = some (.pointer A) ∧ W.cell? ⟨q, 5, none⟩ = some (.int .u64 D)) ∧ Below w0.heap.size w0 W :=
  ⟨⟨((hX.below h hX.lt).cell 0).trans rfl, ((hX.below h hX.lt).cell 1).trans rfl, (h.cell (p := ⟨q, 5, none⟩) hq).trans c5⟩, h⟩
set_option maxRecDepth 100000 in
set_option maxHeartbeats 1000000 in
theorem rootYes_any (wd : Int) (t : Tr) (q : Nat) (w : World) (h : TrR wd w w.heap.size t q) :
    Calls Try.prog 19 #[treeV wd (some ⟨q, 0, none⟩)] w fun e w' => e = .returned (.int .u64 (ofS wd 5 [be (digT wd t) 8])) ∧ Below w.heap.size w w' := by
  have hX : Blk (w.alloc (.cells #[.int .i64 wd, .pointer (some ⟨q, 0, none⟩)] 53)) w.heap.size 53 #[.int .i64 wd, .pointer (some ⟨q, 0, none⟩)] := Blk.new _ _ _
  have hB0 : Below w.heap.size w (w.alloc (.cells #[.int .i64 wd, .pointer (some ⟨q, 0, none⟩)] 53)) := (Below.refl _ _).alloc (Nat.le_refl _) _
  have hd := digT_bd wd t
  have h0 := h.up hB0
  have c5 := h0.dig
  have hq := h0.lt
  unfold treeV
  generalize hw0 : w.alloc (.cells #[.int .i64 wd, .pointer (some ⟨q, 0, none⟩)] 53) = w0 at *
  have c0 := (hX.cell 0).trans (show _ = some (Value.int .i64 wd) from rfl)
  have c1 := (hX.cell 1).trans (show _ = some (Value.pointer (some ⟨q, 0, none⟩)) from rfl)
  have HO := Lib.hid (fun (A' : Option Addr) c' W (hs : Strs W W.heap.size A' [be (digT wd t) 8]) => ofImage_any wd 5 [be (digT wd t) 8] A' c' _ W hs (Nat.le_refl _) (by simp [maxLen]) (short1 _))
  generalize ofS wd 5 [be (digT wd t) 8] = D at *
  generalize digT wd t = dt at *
  clear h h0
  go_enter Try.func19, Try.ntmps19
  go_wp2_with fail
  go_region_held3 (fun W => (W.cell? ⟨w.heap.size, 0, none⟩ = some (.int .i64 wd) ∧ W.cell? ⟨w.heap.size, 1, none⟩ = some (.pointer (some ⟨q, 0, none⟩)) ∧ W.cell? ⟨q, 5, none⟩ = some (.int .u64 dt)) ∧ Below w0.heap.size w0 W) (refine keepRoot hX hq c5 ?_ <;> first | exact Below.refl _ _ | exact Below.drew (Below.refl _ _) | exact And.right (by assumption) | exact Below.drew (And.right (by assumption)) | exact callBelow (And.right (by assumption)) (by assumption)) (first
    | (go_at_call 60
       refine (wholeYes_any dt _ hd.1 hd.2).mono ?_
       rintro e w2 ⟨x, rfl, ⟨A', c', rfl, hs', hf'⟩, hb2⟩)
    | (go_at_call 46
       refine (HO.out _ _ _ (by assumption)).mono ?_
       rintro e w2 ⟨rfl, hb2⟩))
  all_goals
    go_wp2_with fail
    go_ret
    exact ⟨rfl, callBelow hB0 (And.right (by assumption))⟩
theorem rootT_any (wd : Int) (t : Option Tr) (a : Option Addr) (w : World) (h : OTrR wd w w.heap.size t a) :
    Calls Try.prog 19 #[treeV wd a] w fun e w' => e = .returned (.int .u64 (rootT wd t)) ∧ Below w.heap.size w w' := by
  cases t with
  | none => obtain rfl : a = none := h; exact rootNo_any wd w
  | some t => obtain ⟨q, rfl, hq⟩ := h; exact rootYes_any wd t q w hq
end Go.Proofs.Ytjjkdmngmopjbaa

namespace Go.Proofs.Ytjjkdmngmopjbaa
open Go.RowKit
def halfGo : Nat → Nat → Nat → Nat
  | 0, _, k => k
  | f + 1, n, k => if k * 2 < n then halfGo f n (k * 2) else k
/-- the greatest power of two below n -/
def halfS (n : Nat) : Nat := halfGo n n 1
theorem halfGo_end (f n k : Nat) (h : ¬ k * 2 < n) : halfGo f n k = k := by
  cases f with
  | zero => rfl
  | succ f => simp [halfGo, h]
theorem halfGo_step (f n k : Nat) (hk : 1 ≤ k) (hf : n ≤ k + f) (h : k * 2 < n) : halfGo f n k = halfGo (f - 1) n (k * 2) := by
  cases f with
  | zero => omega
  | succ f => simp [halfGo, h]
theorem halfGo_bd (f n k : Nat) (hk : 1 ≤ k) (hf : n ≤ k + f) (hkn : k < n) : 1 ≤ halfGo f n k ∧ halfGo f n k < n ∧ n ≤ 2 * halfGo f n k := by
  induction f generalizing k with
  | zero => omega
  | succ f ih =>
    unfold halfGo
    split
    · exact ih (k * 2) (by omega) (by omega) (by omega)
    · omega
theorem halfS_bd (n : Nat) (h : 2 ≤ n) : 1 ≤ halfS n ∧ halfS n < n ∧ n ≤ 2 * halfS n := halfGo_bd n n 1 (by omega) (by omega) (by omega)
/-! ### the digest above a list -/
def aboveF : Nat → Int → List (List UInt8) → Int
  | 0, _, _ => 0
  | f + 1, w, l => match l with
    | [] => 0
    | [s] => ofS w 0 [s]
    | a :: b :: r => ofS w 1 [be (aboveF f w ((a :: b :: r).take (halfS (a :: b :: r).length))) 8, be (aboveF f w ((a :: b :: r).drop (halfS (a :: b :: r).length))) 8]
def aboveS (w : Int) (l : List (List UInt8)) : Int := aboveF l.length w l
theorem aboveF_irrel (w : Int) : ∀ (f g : Nat) (l : List (List UInt8)), l.length ≤ f → l.length ≤ g → aboveF f w l = aboveF g w l
  | 0, g, l, h1, h2 => by
    have : l = [] := List.eq_nil_of_length_eq_zero (by omega)
    subst this
    cases g <;> rfl
  | f + 1, 0, l, h1, h2 => by
    have : l = [] := List.eq_nil_of_length_eq_zero (by omega)
    subst this
    rfl
  | f + 1, g + 1, [], _, _ => rfl
  | f + 1, g + 1, [s], _, _ => rfl
  | f + 1, g + 1, a :: b :: r, h1, h2 => by
    have hb := halfS_bd (a :: b :: r).length (by simp)
    simp only [aboveF]
    rw [aboveF_irrel w f g _ (by simp only [List.length_take]; simp at h1 hb ⊢; omega) (by simp only [List.length_take]; simp at h2 hb ⊢; omega),
      aboveF_irrel w f g ((a :: b :: r).drop _) (by simp only [List.length_drop]; simp at h1 hb ⊢; omega) (by simp only [List.length_drop]; simp at h2 hb ⊢; omega)]
theorem aboveS_nil (w : Int) : aboveS w [] = 0 := rfl
theorem aboveS_one (w : Int) (s : List UInt8) : aboveS w [s] = ofS w 0 [s] := rfl
theorem aboveS_more (w : Int) (l : List (List UInt8)) (h : 2 ≤ l.length) : aboveS w l = ofS w 1 [be (aboveS w (l.take (halfS l.length))) 8, be (aboveS w (l.drop (halfS l.length))) 8] := by
  match l, h with
  | a :: b :: r, _ =>
    have hb := halfS_bd (a :: b :: r).length (by simp)
    unfold aboveS
    rw [show (a :: b :: r).length = r.length + 1 + 1 from rfl] at hb ⊢
    rw [aboveF]
    rw [show (a :: b :: r).length = r.length + 1 + 1 from rfl]
    rw [aboveF_irrel w (r.length + 1) _ ((a :: b :: r).take _) (by simp only [List.length_take]; omega) (Nat.le_refl _),
      aboveF_irrel w (r.length + 1) _ ((a :: b :: r).drop _) (by simp only [List.length_drop, List.length_cons]; omega) (Nat.le_refl _)]
theorem aboveS_bd (w : Int) (l : List (List UInt8)) : 0 ≤ aboveS w l ∧ aboveS w l < 18446744073709551616 := by
  rcases Nat.lt_or_ge l.length 2 with h | h
  · match l, h with
    | [], _ => rw [aboveS_nil]; omega
    | [s], _ => rw [aboveS_one]; have := ofS_bd w 0 [s]; omega
  · rw [aboveS_more w l h]; have := ofS_bd w 1 [be (aboveS w (l.take (halfS l.length))) 8, be (aboveS w (l.drop (halfS l.length))) 8]; omega
def rootS (w : Int) (l : List (List UInt8)) : Int := ofS w 2 [be (l.length : Int) 5, be (aboveS w l) 8]
theorem Strs.take {w : World} {B : Nat} {A : Option Addr} {ps : List (List UInt8)} (h : Strs w B A ps) {k : Nat} (hk : k ≤ ps.length) : Strs w B A (ps.take k) := by
  have := Rd.take h hk
  unfold Strs
  rw [List.length_take, Nat.min_eq_left hk, List.map_take]
  simpa using this
theorem Strs.cut_lt {w : World} {B b off : Nat} {ps : List (List UInt8)} (h : Strs w B (some ⟨b, off, none⟩) ps) {k : Nat} (hk : k < ps.length) : Strs w B (some ⟨b, off + k, none⟩) (ps.drop k) := by
  have := Rd.cut_lt h hk
  unfold Strs
  rw [List.length_drop, List.map_drop]
  simpa using this
theorem Short.take {ps : List (List UInt8)} (h : Short ps) (k : Nat) : Short (ps.take k) := fun p hp => h p (List.mem_of_mem_take hp)
theorem Short.drop {ps : List (List UInt8)} (h : Short ps) (k : Nat) : Short (ps.drop k) := fun p hp => h p (List.mem_of_mem_drop hp)
end Go.Proofs.Ytjjkdmngmopjbaa

namespace Go.Proofs.Ytjjkdmngmopjbaa
open Go.RowKit
theorem ret_u64 {a b : Int} (h : a = b) : Ending.returned (.int .u64 a) = .returned (.int .u64 b) := by rw [h]
/-- what 'above' answers, for lists shorter than f -/
def Aboves (fn : FuncId) (wd : Int) (f : Nat) : Prop := ∀ (l : List (List UInt8)) (n : Nat) (A : Option Addr) (c B : Nat) (w : World), l.length = n → l.length < f → Strs w B A l → B ≤ w.heap.size → l.length ≤ 65536 → Short l → l.length ≤ c → c ≤ maxLen →
  Calls Try.prog fn #[.int .i64 wd, .slice A n c] w fun e w' => e = .returned (.int .u64 (aboveS wd l)) ∧ Below w.heap.size w w'
theorem aboves_all {fn : FuncId} {wd : Int} (h : ∀ f, Aboves fn wd f → Aboves fn wd (f + 1)) : ∀ f, Aboves fn wd f
  | 0 => fun l n A c B w hn hf => absurd hf (by omega)
  | f + 1 => h f (aboves_all h f)
/-- both halves lie there, and nothing older was turned -/
def Halves (w0 : World) (B b off k : Nat) (l : List (List UInt8)) (W : World) : Prop :=
  (Strs W B (some ⟨b, off, none⟩) (l.take k) ∧ Strs W B (some ⟨b, off + k, none⟩) (l.drop k) ∧ B ≤ w0.heap.size) ∧ Below w0.heap.size w0 W
theorem Halves.below {w0 W W' : World} {B b off k : Nat} {l : List (List UInt8)} (h : Halves w0 B b off k l W) (hb : Below W.heap.size W W') : Halves w0 B b off k l W' :=
  ⟨⟨Rd.below h.1.1 (hb.mono (Nat.le_trans h.1.2.2 h.2.size)), Rd.below h.1.2.1 (hb.mono (Nat.le_trans h.1.2.2 h.2.size)), h.1.2.2⟩, h.2.trans (hb.mono h.2.size)⟩
theorem Halves.drew {w0 W : World} {B b off k : Nat} {l : List (List UInt8)} (h : Halves w0 B b off k l W) : Halves w0 B b off k l W.drew := ⟨h.1, h.2.drew⟩
end Go.Proofs.Ytjjkdmngmopjbaa

namespace Go.Proofs.Ytjjkdmngmopjbaa
open Go.RowKit
theorem short2r (n a : Int) : Short [be n 5, be a 8] := short2 (be5_short n) (be8_short a)
/-- all lengths together, as far as the law reads -/
def sumOf (l : List (List UInt8)) : Nat := l.length + (l.map List.length).sum
def sumGo : List (List UInt8) → Nat → Nat
  | [], n => n
  | s :: r, n => if n ≤ 65536 then sumGo r (n + s.length) else n
theorem sumGo_small : ∀ (l : List (List UInt8)) (n : Nat), sumGo l n ≤ 65536 → n ≤ 65536 ∧ ∀ s ∈ l, s.length ≤ 65536
  | [], n, h => ⟨h, fun s hs => by cases hs⟩
  | s :: r, n, h => by
    unfold sumGo at h
    by_cases hn : n ≤ 65536
    · rw [if_pos hn] at h
      have h2 := sumGo_small r _ h
      exact ⟨hn, fun t ht => by rcases List.mem_cons.1 ht with rfl | ht; · omega
                                exact h2.2 t ht⟩
    · rw [if_neg hn] at h
      exact absurd h hn
end Go.Proofs.Ytjjkdmngmopjbaa

namespace Go.Proofs.Ytjjkdmngmopjbaa
open Go.RowKit
def pathF : Nat → Int → List (List UInt8) → Nat → List Int
  | 0, _, _, _ => []
  | f + 1, w, l, at' => if l.length < 2 then [] else
    if at' < halfS l.length then aboveS w (l.drop (halfS l.length)) :: pathF f w (l.take (halfS l.length)) at'
    else aboveS w (l.take (halfS l.length)) :: pathF f w (l.drop (halfS l.length)) (at' - halfS l.length)
theorem pathF_end (f : Nat) (w : Int) (l : List (List UInt8)) (a : Nat) (h : l.length < 2) : pathF f w l a = [] := by
  cases f with
  | zero => rfl
  | succ f => simp [pathF, h]
theorem pathF_left (f : Nat) (w : Int) (l : List (List UInt8)) (a : Nat) (hf : l.length ≤ f) (h : 2 ≤ l.length) (ha : a < halfS l.length) :
    pathF f w l a = aboveS w (l.drop (halfS l.length)) :: pathF (f - 1) w (l.take (halfS l.length)) a := by
  cases f with
  | zero => omega
  | succ f => rw [pathF, if_neg (by omega), if_pos ha]; rfl
theorem pathF_right (f : Nat) (w : Int) (l : List (List UInt8)) (a : Nat) (hf : l.length ≤ f) (h : 2 ≤ l.length) (ha : ¬ a < halfS l.length) :
    pathF f w l a = aboveS w (l.take (halfS l.length)) :: pathF (f - 1) w (l.drop (halfS l.length)) (a - halfS l.length) := by
  cases f with
  | zero => omega
  | succ f => rw [pathF, if_neg (by omega), if_neg ha]; rfl
theorem pathF_bd : ∀ (f : Nat) (w : Int) (l : List (List UInt8)) (a : Nat), (pathF f w l a).length ≤ f ∧ ∀ d ∈ pathF f w l a, 0 ≤ d ∧ d < 18446744073709551616
  | 0, w, l, a => ⟨by simp [pathF], fun d hd => by simp [pathF] at hd⟩
  | f + 1, w, l, a => by
    have i1 := pathF_bd f w (l.take (halfS l.length)) a
    have i2 := pathF_bd f w (l.drop (halfS l.length)) (a - halfS l.length)
    rw [pathF]
    by_cases h : l.length < 2
    · rw [if_pos h]; simp
    · rw [if_neg h]
      by_cases h2 : a < halfS l.length
      · rw [if_pos h2]
        refine ⟨by simp; omega, fun d hd => ?_⟩
        rcases List.mem_cons.1 hd with rfl | hd
        · exact aboveS_bd _ _
        · exact i1.2 d hd
      · rw [if_neg h2]
        refine ⟨by simp; omega, fun d hd => ?_⟩
        rcases List.mem_cons.1 hd with rfl | hd
        · exact aboveS_bd _ _
        · exact i2.2 d hd
def pathS (w : Int) (l : List (List UInt8)) (a : Nat) : List Int := pathF l.length w l a
def digs (l : List Int) : List Value := l.map fun d => .int .u64 d
/-- a path: two numbers, and sides that lie in memory -/
def IsPath (base : Nat) (w : World) (v : Value) (n a : Int) (ds : List Int) : Prop := ∃ A c, v = .agg #[.int .i64 n, .int .i64 a, .slice A ds.length c] ∧ Rd w w.heap.size 1 A ds.length (digs ds) ∧ From base A
theorem own_from {w : World} {base : Nat} {e : TypeId} {size n c : Nat} {A : Option Addr} {xs : List Value} (h : w.ownsRow base e size (.slice A n c) n xs) : From base A := by
  rcases h.2 with ⟨e, h0⟩ | ⟨g, cap, cur, e, hg, _⟩
  · simp only [Value.slice.injEq] at e
    rw [e.1]; exact from_none _
  · simp only [Value.slice.injEq] at e
    rw [e.1]; exact from_some hg
theorem Strs.mid {w : World} {B b off : Nat} {l : List (List UInt8)} (h : Strs w B (some ⟨b, off, none⟩) l) {lo hi : Nat} (h1 : lo < hi) (h2 : hi ≤ l.length) : Strs w B (some ⟨b, off + lo, none⟩) ((l.take hi).drop lo) :=
  Strs.cut_lt (Strs.take h h2) (by rw [List.length_take]; omega)
theorem mid_length {α : Type} (l : List α) {lo hi : Nat} (h2 : hi ≤ l.length) : ((l.take hi).drop lo).length = hi - lo := by rw [List.length_drop, List.length_take]; omega
theorem mid_drop {α : Type} (l : List α) (lo hi k : Nat) : ((l.take hi).drop lo).drop k = (l.take hi).drop (lo + k) := by rw [List.drop_drop]
theorem mid_take {α : Type} (l : List α) (lo hi k : Nat) (h : lo + k ≤ hi) : ((l.take hi).drop lo).take k = (l.take (lo + k)).drop lo := by rw [List.take_drop, List.take_take, Nat.min_eq_left h]
theorem Short.mid {l : List (List UInt8)} (h : Short l) (lo hi : Nat) : Short ((l.take hi).drop lo) := (h.take hi).drop lo
theorem digs_snoc (l : List Int) (d : Int) : digs (l ++ [d]) = digs l ++ [.int .u64 d] := by simp [digs]
theorem digInfo : (Try.prog.info? 23).map (fun i => (i.zero, i.size, i.bytes)) = some (some (.int .u64 0), 1, 8) := by kernel_rfl
end Go.Proofs.Ytjjkdmngmopjbaa

namespace Go.Proofs.Ytjjkdmngmopjbaa
open Go.RowKit
end Go.Proofs.Ytjjkdmngmopjbaa

namespace Go.Proofs.Ytjjkdmngmopjbaa
open Go.RowKit
/-- the ways down: is the way to the right? -/
def riteF : Nat → Nat → Nat → List Bool
  | 0, _, _ => []
  | f + 1, n, a => if n < 2 then [] else if a < halfS n then false :: riteF f (halfS n) a else true :: riteF f (n - halfS n) (a - halfS n)
/-- the digest on the way up -/
def climb (w d : Int) : List Bool → List Int → Int
  | r :: rs, s :: ss => if r then ofS w 1 [be s 8, be (climb w d rs ss) 8] else ofS w 1 [be (climb w d rs ss) 8, be s 8]
  | _, _ => d
theorem riteF_length (w : Int) : ∀ (f : Nat) (l : List (List UInt8)) (a : Nat), (riteF f l.length a).length = (pathF f w l a).length
  | 0, _, _ => rfl
  | f + 1, l, a => by
    rw [riteF, pathF]
    by_cases h : l.length < 2
    · rw [if_pos h, if_pos h]; rfl
    · rw [if_neg h, if_neg h]
      have hb := halfS_bd l.length (by omega)
      have i1 := riteF_length w f (l.take (halfS l.length)) a
      have i2 := riteF_length w f (l.drop (halfS l.length)) (a - halfS l.length)
      rw [List.length_take, Nat.min_eq_left (by omega)] at i1
      rw [List.length_drop] at i2
      by_cases h2 : a < halfS l.length
      · rw [if_pos h2, if_pos h2]; simp [i1]
      · rw [if_neg h2, if_neg h2]; simp [i2]
theorem climb_path (w : Int) : ∀ (f : Nat) (l : List (List UInt8)) (a : Nat) (h : a < l.length), l.length ≤ f → climb w (ofS w 0 [l[a]]) (riteF f l.length a) (pathF f w l a) = aboveS w l
  | 0, l, a, h, hf => by omega
  | f + 1, l, a, h, hf => by
    by_cases h2 : l.length < 2
    · rw [riteF, pathF, if_pos h2, if_pos h2]
      match l, h, h2 with
      | [s], h, _ =>
        have : a = 0 := by simp at h; omega
        subst this
        rfl
    · have hb := halfS_bd l.length (by omega)
      rw [riteF, pathF, if_neg h2, if_neg h2, aboveS_more w l (by omega)]
      by_cases h3 : a < halfS l.length
      · have i1 := climb_path w f (l.take (halfS l.length)) a (by rw [List.length_take]; omega) (by rw [List.length_take]; omega)
        simp only [List.getElem_take, List.length_take, Nat.min_eq_left (show halfS l.length ≤ l.length by omega)] at i1
        rw [if_pos h3, if_pos h3, climb, i1]
        simp
      · have i2 := climb_path w f (l.drop (halfS l.length)) (a - halfS l.length) (by rw [List.length_drop]; omega) (by rw [List.length_drop]; omega)
        simp only [List.getElem_drop, List.length_drop, show halfS l.length + (a - halfS l.length) = a by omega] at i2
        rw [if_neg h3, if_neg h3, climb, i2]
        simp
end Go.Proofs.Ytjjkdmngmopjbaa

namespace Go.Proofs.Ytjjkdmngmopjbaa
open Go.RowKit
theorem riteF_end (f n a : Nat) (h : n < 2) : riteF f n a = [] := by
  cases f with
  | zero => rfl
  | succ f => rw [riteF, if_pos h]
theorem riteF_left (f n a : Nat) (hf : n ≤ f) (h : 2 ≤ n) (ha : a < halfS n) : riteF f n a = false :: riteF (f - 1) (halfS n) a := by
  cases f with
  | zero => omega
  | succ f => rw [riteF, if_neg (by omega), if_pos ha]; rfl
theorem riteF_right (f n a : Nat) (hf : n ≤ f) (h : 2 ≤ n) (ha : ¬ a < halfS n) : riteF f n a = true :: riteF (f - 1) (n - halfS n) (a - halfS n) := by
  cases f with
  | zero => omega
  | succ f => rw [riteF, if_neg (by omega), if_neg ha]; rfl
def boos (l : List Bool) : List Value := l.map fun b => .bool b
theorem boos_snoc (l : List Bool) (b : Bool) : boos (l ++ [b]) = boos l ++ [.bool b] := by simp [boos]
theorem boolInfo : (Try.prog.info? 4).map (fun i => (i.zero, i.size, i.bytes)) = some (some (.bool false), 1, 1) := by kernel_rfl
end Go.Proofs.Ytjjkdmngmopjbaa
