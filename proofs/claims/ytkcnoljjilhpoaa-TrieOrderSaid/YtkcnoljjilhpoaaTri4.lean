/- Tries in memory, by package trie: leaves, forks, the way down. -/
import Derived.Test.YtkcnoljjilhpoaaProg
import Derived.Test.YtkcnoljjilhpoaaTri3
import Derived.Deep.RegionHeld3
import Derived.Deep.RegionLaw
namespace Go.Proofs.Ytkcnoljjilhpoaa
open Go.RowKit
def digT (wd : Int) : Tr → Int
  | .leaf k v => ofS wd 3 [k, v]
  | .fork p l r => ofS wd 4 [be (p : Int) 5, be (digT wd l) 8, be (digT wd r) 8]
theorem digT_bd (wd : Int) : ∀ t : Tr, 0 ≤ digT wd t ∧ digT wd t < 18446744073709551616
  | .leaf k v => by have := ofS_bd wd 3 [k, v]; unfold digT; omega
  | .fork p l r => by have := ofS_bd wd 4 [be (p : Int) 5, be (digT wd l) 8, be (digT wd r) 8]; unfold digT; omega
/-- every place is low -/
def lowT : Tr → Prop
  | .leaf _ _ => True
  | .fork p l r => p ≤ 1000000 ∧ lowT l ∧ lowT r
theorem low_of : ∀ {t : Tr}, t.ok → (∀ x, x ∈ t.items → x.1.length ≤ 32) → lowT t
  | .leaf _ _, _, _ => trivial
  | .fork p l r, h, hk => ⟨by have := Tr.pos_lt h hk; omega, low_of h.1 fun x hx => hk x (by rw [Tr.items]; exact List.mem_append_left _ hx), low_of h.2.1 fun x hx => hk x (by rw [Tr.items]; exact List.mem_append_right _ hx)⟩
/-- a trie in memory -/
def TrR (wd : Int) (w : World) : Nat → Tr → Nat → Prop
  | B, .leaf k v, q => q < B ∧ Blk w q 148 #[.string (bs k), .string (bs v), .int .i64 (-1), .pointer none, .pointer none, .int .u64 (digT wd (.leaf k v))]
  | B, .fork p l r, q => q < B ∧ ∃ a b, Blk w q 148 #[.string (bs []), .string (bs []), .int .i64 (p : Int), .pointer (some ⟨a, 0, none⟩), .pointer (some ⟨b, 0, none⟩), .int .u64 (digT wd (.fork p l r))] ∧ TrR wd w q l a ∧ TrR wd w q r b
theorem TrR.more {wd : Int} {w : World} {B B' : Nat} (hB : B ≤ B') : ∀ {t : Tr} {q : Nat}, TrR wd w B t q → TrR wd w B' t q
  | .leaf k v, q, h => ⟨by have := h.1; omega, h.2⟩
  | .fork p l r, q, h => ⟨by have := h.1; omega, h.2⟩
theorem TrR.lt {wd : Int} {w : World} {B : Nat} : ∀ {t : Tr} {q : Nat}, TrR wd w B t q → q < B
  | .leaf k v, q, h => h.1
  | .fork p l r, q, h => h.1
theorem TrR.below {wd : Int} {w w' : World} : ∀ {t : Tr} {B q : Nat}, TrR wd w B t q → Below B w w' → TrR wd w' B t q
  | .leaf k v, B, q, h, hb => ⟨h.1, h.2.below hb h.1⟩
  | .fork p l r, B, q, h, hb => by
    obtain ⟨h1, a, b, h2, h3, h4⟩ := h
    exact ⟨h1, a, b, h2.below hb h1, h3.below (hb.mono (by omega)), h4.below (hb.mono (by omega))⟩
theorem TrR.up {wd : Int} {w w' : World} {t : Tr} {q : Nat} (h : TrR wd w w.heap.size t q) (hb : Below w.heap.size w w') : TrR wd w' w'.heap.size t q := (h.below hb).more hb.size
theorem TrR.dig {wd : Int} {w : World} : ∀ {t : Tr} {B q : Nat}, TrR wd w B t q → w.cell? ⟨q, 5, none⟩ = some (.int .u64 (digT wd t))
  | .leaf k v, _, _, h => (h.2.cell 5).trans rfl
  | .fork p l r, _, _, h => by
    obtain ⟨h1, a, b, h2, h3, h4⟩ := h
    exact (h2.cell 5).trans rfl
/-- the place at which a node parts; of a leaf -1 -/
def posT : Tr → Int
  | .leaf _ _ => -1
  | .fork p _ _ => (p : Int)
theorem TrR.pos {wd : Int} {w : World} : ∀ {t : Tr} {B q : Nat}, TrR wd w B t q → w.cell? ⟨q, 2, none⟩ = some (.int .i64 (posT t))
  | .leaf k v, _, _, h => (h.2.cell 2).trans rfl
  | .fork p l r, _, _, h => by
    obtain ⟨h1, a, b, h2, h3, h4⟩ := h
    exact (h2.cell 2).trans rfl
def treeV (wd : Int) (a : Option Addr) : Value := .agg #[.int .i64 wd, .pointer a]
/-- a tree in memory: none, or a trie -/
def OTrR (wd : Int) (w : World) (B : Nat) : Option Tr → Option Addr → Prop
  | none, a => a = none
  | some t, a => ∃ q, a = some ⟨q, 0, none⟩ ∧ TrR wd w B t q
theorem OTrR.up {wd : Int} {w w' : World} {t : Option Tr} {a : Option Addr} (h : OTrR wd w w.heap.size t a) (hb : Below w.heap.size w w') : OTrR wd w' w'.heap.size t a := by
  cases t with
  | none => exact h
  | some t => obtain ⟨q, e, h⟩ := h; exact ⟨q, e, h.up hb⟩
theorem callBelow {w0 W W' : World} (h : Below w0.heap.size w0 W) (hb : Below W.heap.size W W') : Below w0.heap.size w0 W' := h.trans (hb.mono h.size)
theorem drewBelow {w0 W : World} (h : Below w0.drew.heap.size w0.drew W) : Below w0.heap.size w0 W := (Below.refl w0.heap.size w0).drew.trans h
theorem boxBelow {w0 W : World} (h : Below w0.heap.size w0 W) (o : Obj) : Below w0.heap.size w0 (W.alloc o) := h.alloc h.size o
theorem keep1 {w0 W : World} {p : Addr} {v : Value} (hp : p.block < w0.heap.size) (hc : w0.cell? p = some v) (h : Below w0.heap.size w0 W) : W.cell? p = some v ∧ Below w0.heap.size w0 W := ⟨(h.cell hp).trans hc, h⟩
theorem keep2 {w0 W : World} {p p' : Addr} {v v' : Value} (hp : p.block < w0.heap.size) (hc : w0.cell? p = some v) (hp' : p'.block < w0.heap.size) (hc' : w0.cell? p' = some v') (h : Below w0.heap.size w0 W) : (W.cell? p = some v ∧ W.cell? p' = some v') ∧ Below w0.heap.size w0 W := ⟨⟨(h.cell hp).trans hc, (h.cell hp').trans hc'⟩, h⟩
theorem keep3 {w0 W : World} {p p' q : Addr} {v v' u : Value} (hp : p.block < w0.heap.size) (hc : w0.cell? p = some v) (hp' : p'.block < w0.heap.size) (hc' : w0.cell? p' = some v') (hq : q.block < w0.heap.size) (hu : w0.cell? q = some u) (h : Below w0.heap.size w0 W) : (W.cell? p = some v ∧ W.cell? p' = some v' ∧ W.cell? q = some u) ∧ Below w0.heap.size w0 W := ⟨⟨(h.cell hp).trans hc, (h.cell hp').trans hc', (h.cell hq).trans hu⟩, h⟩
set_option maxRecDepth 100000 in
theorem leaf_any (wd : Int) (k v : Key) (A : Option Addr) (w : World) (hk : k.length ≤ maxLen) (hv : v.length ≤ maxLen) :
    Calls Try.prog 87 #[treeV wd A, .string (bs k), .string (bs v)] w fun e w' => ∃ q, e = .returned (.pointer (some ⟨q, 0, none⟩)) ∧ TrR wd w' w'.heap.size (.leaf k v) q ∧ Below w.heap.size w w' := by
  have hsh : Short [k, v] := fun x hx => by simp at hx; rcases hx with rfl | rfl <;> assumption
  unfold treeV
  go_enter Try.func87, Try.ntmps87
  go_wp2_with fail
  have hX : Blk (w.alloc (.cells #[.int .i64 wd, .pointer A] 37)) w.heap.size 37 #[.int .i64 wd, .pointer A] := Blk.new _ _ _
  have hB0 : Below w.heap.size w (w.alloc (.cells #[.int .i64 wd, .pointer A] 37)) := (Below.refl _ _).alloc (Nat.le_refl _) _
  generalize w.alloc (.cells #[.int .i64 wd, .pointer A] 37) = w0 at *
  have c0 : w0.cell? ⟨w.heap.size, 0, none⟩ = some (.int .i64 wd) := (hX.cell 0).trans rfl
  go_region_held3 (fun W => W.cell? ⟨w.heap.size, 0, none⟩ = some (.int .i64 wd) ∧ Below w0.heap.size w0 W) (refine keep1 hX.lt c0 ?_ <;> first | exact Below.refl _ _ | exact Below.drew (Below.refl _ _) | exact And.right (by assumption) | exact Below.drew (And.right (by assumption)) | exact callBelow (And.right (by assumption)) (by assumption) | exact boxBelow (And.right (by assumption)) _) (first
    | (go_at_call 143
       refine (entry_any k v _).mono ?_
       rintro e w2 ⟨x, rfl, ⟨A', c', rfl, hs', hf'⟩, hb2⟩)
    | (go_at_call 55
       refine (ofImage_any wd 3 [k, v] _ _ _ _ (by assumption) (Nat.le_refl _) (by simp [maxLen]) hsh).mono ?_
       rintro e w2 ⟨rfl, hb2⟩))
  all_goals
    go_wp2_with fail
    go_ret
    exact ⟨_, rfl, ⟨by simp, Blk.new _ _ _⟩, callBelow hB0 (And.right (by assumption))⟩
set_option maxRecDepth 100000 in
theorem trfork_any (wd : Int) (p : Nat) (l r : Tr) (a b : Nat) (A : Option Addr) (w : World) (hl : TrR wd w w.heap.size l a) (hr : TrR wd w w.heap.size r b) :
    Calls Try.prog 142 #[treeV wd A, .int .i64 (p : Int), .pointer (some ⟨a, 0, none⟩), .pointer (some ⟨b, 0, none⟩)] w fun e w' => ∃ q, e = .returned (.pointer (some ⟨q, 0, none⟩)) ∧ TrR wd w' w'.heap.size (.fork p l r) q ∧ Below w.heap.size w w' := by
  have hdl := digT_bd wd l
  have hdr := digT_bd wd r
  unfold treeV
  go_enter Try.func142, Try.ntmps142
  go_wp2_with fail
  have hX : Blk (w.alloc (.cells #[.int .i64 wd, .pointer A] 37)) w.heap.size 37 #[.int .i64 wd, .pointer A] := Blk.new _ _ _
  have hB0 : Below w.heap.size w (w.alloc (.cells #[.int .i64 wd, .pointer A] 37)) := (Below.refl _ _).alloc (Nat.le_refl _) _
  have hl0 := hl.up hB0
  have hr0 := hr.up hB0
  generalize w.alloc (.cells #[.int .i64 wd, .pointer A] 37) = w0 at *
  have c0 : w0.cell? ⟨w.heap.size, 0, none⟩ = some (.int .i64 wd) := (hX.cell 0).trans rfl
  have c1 := hl0.dig
  have c2 := hr0.dig
  have hsh : Short [be (p : Int) 5, be (digT wd l) 8, be (digT wd r) 8] := short3 _ _ _
  obtain ⟨D, hD⟩ : ∃ D : Int, D = ofS wd 4 [be (p : Int) 5, be (digT wd l) 8, be (digT wd r) 8] := ⟨_, rfl⟩
  have hfin : ∀ W : World, Below w0.heap.size w0 W → TrR wd (W.alloc (.cells #[.string (bs []), .string (bs []), .int .i64 (p : Int), .pointer (some ⟨a, 0, none⟩), .pointer (some ⟨b, 0, none⟩), .int .u64 D] 148)) (W.alloc (.cells #[.string (bs []), .string (bs []), .int .i64 (p : Int), .pointer (some ⟨a, 0, none⟩), .pointer (some ⟨b, 0, none⟩), .int .u64 D] 148)).heap.size (.fork p l r) W.heap.size := fun W hW => by
    refine ⟨by simp, a, b, ?_, ?_, ?_⟩
    · have hd : digT wd (.fork p l r) = D := by rw [hD]; rfl
      rw [hd]
      exact Blk.new _ _ _
    · exact ((hl0.up hW).below ((Below.refl _ _).alloc (Nat.le_refl _) _))
    · exact ((hr0.up hW).below ((Below.refl _ _).alloc (Nat.le_refl _) _))
  have HF := Lib.hid hfin
  clear hfin
  have hof := fun (A' : Option Addr) c' W (hs : Strs W W.heap.size A' [be (p : Int) 5, be (digT wd l) 8, be (digT wd r) 8]) => ofImage_any wd 4 [be (p : Int) 5, be (digT wd l) 8, be (digT wd r) 8] A' c' _ W hs (Nat.le_refl _) (by simp [maxLen]) hsh
  rw [← hD] at hof
  clear hD
  have hal := hl0.lt
  have hbl := hr0.lt
  go_region_held3 (fun W => (W.cell? ⟨w.heap.size, 0, none⟩ = some (.int .i64 wd) ∧ W.cell? ⟨a, 5, none⟩ = some (.int .u64 (digT wd l)) ∧ W.cell? ⟨b, 5, none⟩ = some (.int .u64 (digT wd r))) ∧ Below w0.heap.size w0 W) (refine keep3 hX.lt c0 hal c1 hbl c2 ?_ <;> first | exact Below.refl _ _ | exact Below.drew (Below.refl _ _) | exact And.right (by assumption) | exact Below.drew (And.right (by assumption)) | exact callBelow (And.right (by assumption)) (by assumption) | exact boxBelow (And.right (by assumption)) _) (first
    | (go_at_call 179
       refine (fork_any p (digT wd l) (digT wd r) _ hdl.1 hdl.2 hdr.1 hdr.2).mono ?_
       rintro e w2 ⟨x, rfl, ⟨A', c', rfl, hs', hf'⟩, hb2⟩)
    | (go_at_call 55
       refine (hof _ _ _ (by assumption)).mono ?_
       rintro e w2 ⟨rfl, hb2⟩))
  all_goals
    go_wp2_with fail
    go_ret
    exact ⟨_, rfl, HF.out _ (callBelow (drewBelow (by assumption)) hb2), callBelow hB0 (And.right (by assumption))⟩
end Go.Proofs.Ytkcnoljjilhpoaa
