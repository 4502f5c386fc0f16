/- Tries in memory, by package trie: Put as a whole, New, Root. -/
import Derived.Test.YtkcnoljjilhpoaaProg
import Derived.Test.YtkcnoljjilhpoaaTri9
import Derived.Deep.RegionHeld3
import Derived.Deep.RegionLaw
namespace Go.Proofs.Ytkcnoljjilhpoaa
open Go.RowKit
theorem PutsR.puts {wd : Int} {w : World} {k v : Key} {t t' : Option Tr} {e : Ending} {w' : World} (h1 : Tr.ook t') (h2 : Tr.oitems t' = putL k v (Tr.oitems t)) (h : PutsR wd w t' e w') : Puts_ wd w k v t e w' := by
  obtain ⟨a', e1, e2, e3⟩ := h
  exact ⟨t', a', e1, h1, h2, e2, e3⟩
theorem put_any (wd : Int) (k v : Key) (t : Option Tr) (a : Option Addr) (w : World) (hk : k.length ≤ 32) (hv : v.length ≤ 4096) (hok : Tr.ook t) (hkl : ∀ x, x ∈ Tr.oitems t → x.1.length ≤ 32) (h : OTrR wd w w.heap.size t a) :
    Calls Try.prog 21 #[treeV wd a, .string (bs k), .string (bs v)] w (Puts_ wd w k v t) := by
  cases t with
  | none =>
    obtain rfl : a = none := h
    by_cases hv0 : v = []
    · subst hv0
      exact (putSkipNo_any wd k w hk).mono fun e w' => PutsR.puts (t := none) (t' := none) trivial rfl
    · exact (putLeaf_any wd k v w hk hv hv0).mono fun e w' => PutsR.puts (t := none) (t' := some _) trivial (putL_nil hv0).symm
  | some t =>
    obtain ⟨q, rfl, hq⟩ := h
    have hlow := low_of hok hkl
    by_cases hf : (t.find k).1 = k
    · by_cases hv0 : v = []
      · subst hv0
        obtain ⟨e1, e2⟩ := Tr.put_del hok hf
        exact (putDel_any wd k t q w hk hlow hq hf).mono fun e w' => PutsR.puts (t := some t) e1 e2
      · obtain ⟨e1, e2⟩ := Tr.put_upd (v := v) hok hv0 hf
        exact (putUpd_any wd k v t q w hk hv hv0 hlow hq hf).mono fun e w' => PutsR.puts (t := some t) (t' := some _) e1 e2
    · by_cases hv0 : v = []
      · subst hv0
        exact (putSkip_any wd k t q w hk hlow hq hf).mono fun e w' => PutsR.puts (t := some t) (t' := some t) hok (Tr.put_skip hok hf)
      · obtain ⟨p, hp1, hp2⟩ := parts_ex (a := k) (b := (t.find k).1) (fun e => hf e.symm)
        have hx := hkl _ (t.find_mem k)
        have hp := parts_lt hp2 hk hx
        obtain ⟨e1, e2⟩ := Tr.put_ins (v := v) hok hv0 hp1 hp2
        exact (putIns_any wd k v t q p w hk hv hv0 hlow hq hf hx hp1 hp2 (by omega)).mono fun e w' => PutsR.puts (t := some t) (t' := some _) e1 e2
set_option maxRecDepth 100000 in
theorem new_any (wd : Int) (w : World) :
    Calls Try.prog 20 #[.int .i64 wd] w fun e w' => e = .returned (treeV wd none) ∧ Below w.heap.size w w' := by
  have hY : Blk (w.alloc (.cells #[.int .i64 0, .pointer none] 37)) w.heap.size 37 #[.int .i64 0, .pointer none] := Blk.new _ _ _
  have y0 := (hY.cell 0).trans (show _ = some (Value.int .i64 0) from rfl)
  have y1 := (hY.cell 1).trans (show _ = some (Value.pointer none) from rfl)
  have f0 := hY.frozen 0
  have f1 := hY.frozen 1
  have hB0 : Below w.heap.size w (w.alloc (.cells #[.int .i64 0, .pointer none] 37)) := (Below.refl _ _).alloc (Nat.le_refl _) _
  unfold treeV
  generalize hw0 : w.alloc (.cells #[.int .i64 0, .pointer none] 37) = w0 at *
  go_enter Try.func20, Try.ntmps20
  go_wp2_with fail
  have hz := (hY.set_ 0 (.int .i64 wd)).set_ 1 (.pointer none)
  have z0 := (hz.cell 0).trans (show _ = some (Value.int .i64 wd) from rfl)
  have z1 := (hz.cell 1).trans (show _ = some (Value.pointer none) from rfl)
  exact bodyPost_ret (v := .agg #[.int .i64 wd, .pointer none]) (by simp [results, Try.results20, go_sem, z0, z1]) rfl ⟨rfl, (hB0.setCell (by simp) _).setCell (by simp) _⟩
/-- the digest of a tree -/
def rootS (wd : Int) : Option Tr → Int
  | none => ofS wd 5 []
  | some t => ofS wd 5 [be (digT wd t) 8]
theorem keepOne {w0 W : World} {g : Nat} {u : Value} (hg : g < w0.heap.size) (c0 : w0.cell? ⟨g, 0, none⟩ = some u) (h : Below w0.heap.size w0 W) : W.cell? ⟨g, 0, none⟩ = some u ∧ Below w0.heap.size w0 W := ⟨(h.cell (p := ⟨g, 0, none⟩) hg).trans c0, h⟩
set_option maxRecDepth 100000 in
theorem rootNo_any (wd : Int) (w : World) :
    Calls Try.prog 22 #[treeV wd none] w fun e w' => e = .returned (.int .u64 (ofS wd 5 [])) ∧ Below w.heap.size w w' := by
  have hX : Blk (w.alloc (.cells #[.int .i64 wd, .pointer none] 37)) w.heap.size 37 #[.int .i64 wd, .pointer none] := Blk.new _ _ _
  have hB0 : Below w.heap.size w (w.alloc (.cells #[.int .i64 wd, .pointer none] 37)) := (Below.refl _ _).alloc (Nat.le_refl _) _
  unfold treeV
  generalize hw0 : w.alloc (.cells #[.int .i64 wd, .pointer none] 37) = w0 at *
  have c0 := (hX.cell 0).trans (show _ = some (Value.int .i64 wd) from rfl)
  have c1 := (hX.cell 1).trans (show _ = some (Value.pointer none) from rfl)
  have HO := Lib.hid (fun (A' : Option Addr) c' W (hs : Strs W W.heap.size A' []) => ofImage_any wd 5 [] A' c' _ W hs (Nat.le_refl _) (by simp [maxLen]) (by intro p hp; simp at hp))
  generalize ofS wd 5 [] = D at *
  go_enter Try.func22, Try.ntmps22
  go_wp2_with fail
  go_region_held3 (fun W => W.cell? ⟨w.heap.size, 0, none⟩ = some (.int .i64 wd) ∧ Below w0.heap.size w0 W) (refine keepOne hX.lt c0 ?_ <;> first | exact Below.refl _ _ | exact Below.drew (Below.refl _ _) | exact And.right (by assumption) | exact Below.drew (And.right (by assumption)) | exact callBelow (And.right (by assumption)) (by assumption)) (first
    | (go_at_call 90
       refine (wholeNo_any _ _).mono ?_
       rintro e w2 ⟨x, rfl, ⟨A', c', rfl, hs', hf'⟩, hb2⟩)
    | (go_at_call 55
       refine (HO.out _ _ _ (by assumption)).mono ?_
       rintro e w2 ⟨rfl, hb2⟩))
  all_goals
    go_wp2_with fail
    go_ret
    exact ⟨rfl, callBelow hB0 (And.right (by assumption))⟩
theorem keepRoot {w0 W : World} {g q : Nat} {wd D : Int} {A : Option Addr} {t : TypeId} (hX : Blk w0 g t #[.int .i64 wd, .pointer A]) (hq : q < w0.heap.size) (c5 : w0.cell? ⟨q, 5, none⟩ = some (.int .u64 D)) (h : Below w0.heap.size w0 W) : (W.cell? ⟨g, 0, none⟩ = some (.int .i64 wd) ∧ W.cell? ⟨g, 1, none⟩ = some (.pointer A) ∧ W.cell? ⟨q, 5, none⟩ = some (.int .u64 D)) ∧ Below w0.heap.size w0 W :=
  ⟨⟨((hX.below h hX.lt).cell 0).trans rfl, ((hX.below h hX.lt).cell 1).trans rfl, (h.cell (p := ⟨q, 5, none⟩) hq).trans c5⟩, h⟩
set_option maxRecDepth 100000 in
set_option maxHeartbeats 1000000 in
theorem rootYes_any (wd : Int) (t : Tr) (q : Nat) (w : World) (h : TrR wd w w.heap.size t q) :
    Calls Try.prog 22 #[treeV wd (some ⟨q, 0, none⟩)] w fun e w' => e = .returned (.int .u64 (ofS wd 5 [be (digT wd t) 8])) ∧ Below w.heap.size w w' := by
  have hX : Blk (w.alloc (.cells #[.int .i64 wd, .pointer (some ⟨q, 0, none⟩)] 37)) w.heap.size 37 #[.int .i64 wd, .pointer (some ⟨q, 0, none⟩)] := Blk.new _ _ _
  have hB0 : Below w.heap.size w (w.alloc (.cells #[.int .i64 wd, .pointer (some ⟨q, 0, none⟩)] 37)) := (Below.refl _ _).alloc (Nat.le_refl _) _
  have hd := digT_bd wd t
  have h0 := h.up hB0
  have c5 := h0.dig
  have hq := h0.lt
  unfold treeV
  generalize hw0 : w.alloc (.cells #[.int .i64 wd, .pointer (some ⟨q, 0, none⟩)] 37) = w0 at *
  have c0 := (hX.cell 0).trans (show _ = some (Value.int .i64 wd) from rfl)
  have c1 := (hX.cell 1).trans (show _ = some (Value.pointer (some ⟨q, 0, none⟩)) from rfl)
  have HO := Lib.hid (fun (A' : Option Addr) c' W (hs : Strs W W.heap.size A' [be (digT wd t) 8]) => ofImage_any wd 5 [be (digT wd t) 8] A' c' _ W hs (Nat.le_refl _) (by simp [maxLen]) (short1 _))
  generalize ofS wd 5 [be (digT wd t) 8] = D at *
  generalize digT wd t = dt at *
  clear h h0
  go_enter Try.func22, Try.ntmps22
  go_wp2_with fail
  go_region_held3 (fun W => (W.cell? ⟨w.heap.size, 0, none⟩ = some (.int .i64 wd) ∧ W.cell? ⟨w.heap.size, 1, none⟩ = some (.pointer (some ⟨q, 0, none⟩)) ∧ W.cell? ⟨q, 5, none⟩ = some (.int .u64 dt)) ∧ Below w0.heap.size w0 W) (refine keepRoot hX hq c5 ?_ <;> first | exact Below.refl _ _ | exact Below.drew (Below.refl _ _) | exact And.right (by assumption) | exact Below.drew (And.right (by assumption)) | exact callBelow (And.right (by assumption)) (by assumption)) (first
    | (go_at_call 90
       refine (wholeYes_any dt _ hd.1 hd.2).mono ?_
       rintro e w2 ⟨x, rfl, ⟨A', c', rfl, hs', hf'⟩, hb2⟩)
    | (go_at_call 55
       refine (HO.out _ _ _ (by assumption)).mono ?_
       rintro e w2 ⟨rfl, hb2⟩))
  all_goals
    go_wp2_with fail
    go_ret
    exact ⟨rfl, callBelow hB0 (And.right (by assumption))⟩
theorem root_any (wd : Int) (t : Option Tr) (a : Option Addr) (w : World) (h : OTrR wd w w.heap.size t a) :
    Calls Try.prog 22 #[treeV wd a] w fun e w' => e = .returned (.int .u64 (rootS wd t)) ∧ Below w.heap.size w w' := by
  cases t with
  | none => obtain rfl : a = none := h; exact rootNo_any wd w
  | some t => obtain ⟨q, rfl, hq⟩ := h; exact rootYes_any wd t q w hq
end Go.Proofs.Ytkcnoljjilhpoaa
