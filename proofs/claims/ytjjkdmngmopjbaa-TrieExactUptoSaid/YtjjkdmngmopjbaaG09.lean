/- Of the texts Tri4, Tri5, Tri6, Tri7, Tri8. -/
import Derived.Test.YtjjkdmngmopjbaaProg
import Derived.Test.YtjjkdmngmopjbaaG08
import Derived.Deep.RegionHeld3
import Derived.Deep.RegionLaw
import Derived.Deep.QuietTactic
import Derived.BigQuiet
namespace Go.Proofs.Ytjjkdmngmopjbaa
open Go.RowKit
def digT (wd : Int) : Tr → Int
  | .leaf k v => ofS wd 3 [k, v]
  | .fork p l r => ofS wd 4 [be (p : Int) 5, be (digT wd l) 8, be (digT wd r) 8]
theorem digT_bd (wd : Int) : ∀ t : Tr, 0 ≤ digT wd t ∧ digT wd t < 18446744073709551616
  | .leaf k v => by have := ofS_bd wd 3 [k, v]; unfold digT; omega
  | .fork p l r => by have := ofS_bd wd 4 [be (p : Int) 5, be (digT wd l) 8, be (digT wd r) 8]; unfold digT; omega
/-- every place is low -/
def lowT : Tr → Prop
  | .leaf _ _ => True
  | .fork p l r => p ≤ 1000000 ∧ lowT l ∧ lowT r
theorem low_of : ∀ {t : Tr}, t.ok → (∀ x, x ∈ t.items → x.1.length ≤ 32) → lowT t
  | .leaf _ _, _, _ => trivial
  | .fork p l r, h, hk => ⟨by have := Tr.pos_lt h hk; omega, low_of h.1 fun x hx => hk x (by rw [Tr.items]; exact List.mem_append_left _ hx), low_of h.2.1 fun x hx => hk x (by rw [Tr.items]; exact List.mem_append_right _ hx)⟩
/-- a trie in memory -/
def TrR (wd : Int) (w : World) : Nat → Tr → Nat → Prop
  | B, .leaf k v, q => q < B ∧ Blk w q 126 #[.string (bs k), .string (bs v), .int .i64 (-1), .pointer none, .pointer none, .int .u64 (digT wd (.leaf k v))]
  | B, .fork p l r, q => q < B ∧ ∃ a b, Blk w q 126 #[.string (bs []), .string (bs []), .int .i64 (p : Int), .pointer (some ⟨a, 0, none⟩), .pointer (some ⟨b, 0, none⟩), .int .u64 (digT wd (.fork p l r))] ∧ TrR wd w q l a ∧ TrR wd w q r b
theorem TrR.more {wd : Int} {w : World} {B B' : Nat} (hB : B ≤ B') : ∀ {t : Tr} {q : Nat}, TrR wd w B t q → TrR wd w B' t q
  | .leaf k v, q, h => ⟨by have := h.1; omega, h.2⟩
  | .fork p l r, q, h => ⟨by have := h.1; omega, h.2⟩
theorem TrR.lt {wd : Int} {w : World} {B : Nat} : ∀ {t : Tr} {q : Nat}, TrR wd w B t q → q < B
  | .leaf k v, q, h => h.1
  | .fork p l r, q, h => h.1
theorem TrR.below {wd : Int} {w w' : World} : ∀ {t : Tr} {B q : Nat}, TrR wd w B t q → Below B w w' → TrR wd w' B t q
  | .leaf k v, B, q, h, hb => ⟨h.1, h.2.below hb h.1⟩
  | .fork p l r, B, q, h, hb => by
    obtain ⟨h1, a, b, h2, h3, h4⟩ := h
    exact ⟨h1, a, b, h2.below hb h1, h3.below (hb.mono (by omega)), h4.below (hb.mono (by omega))⟩
theorem TrR.up {wd : Int} {w w' : World} {t : Tr} {q : Nat} (h : TrR wd w w.heap.size t q) (hb : Below w.heap.size w w') : TrR wd w' w'.heap.size t q := (h.below hb).more hb.size
theorem TrR.dig {wd : Int} {w : World} : ∀ {t : Tr} {B q : Nat}, TrR wd w B t q → w.cell? ⟨q, 5, none⟩ = some (.int .u64 (digT wd t))
  | .leaf k v, _, _, h => (h.2.cell 5).trans rfl
  | .fork p l r, _, _, h => by
    obtain ⟨h1, a, b, h2, h3, h4⟩ := h
    exact (h2.cell 5).trans rfl
/-- the place at which a node parts; of a leaf -1 -/
def posT : Tr → Int
  | .leaf _ _ => -1
  | .fork p _ _ => (p : Int)
theorem TrR.pos {wd : Int} {w : World} : ∀ {t : Tr} {B q : Nat}, TrR wd w B t q → w.cell? ⟨q, 2, none⟩ = some (.int .i64 (posT t))
  | .leaf k v, _, _, h => (h.2.cell 2).trans rfl
  | .fork p l r, _, _, h => by
    obtain ⟨h1, a, b, h2, h3, h4⟩ := h
    exact (h2.cell 2).trans rfl
def treeV (wd : Int) (a : Option Addr) : Value := .agg #[.int .i64 wd, .pointer a]
/-- a tree in memory: none, or a trie -/
def OTrR (wd : Int) (w : World) (B : Nat) : Option Tr → Option Addr → Prop
  | none, a => a = none
  | some t, a => ∃ q, a = some ⟨q, 0, none⟩ ∧ TrR wd w B t q
theorem OTrR.up {wd : Int} {w w' : World} {t : Option Tr} {a : Option Addr} (h : OTrR wd w w.heap.size t a) (hb : Below w.heap.size w w') : OTrR wd w' w'.heap.size t a := by
  cases t with
  | none => exact h
  | some t => obtain ⟨q, e, h⟩ := h; exact ⟨q, e, h.up hb⟩
theorem callBelow {w0 W W' : World} (h : Below w0.heap.size w0 W) (hb : Below W.heap.size W W') : Below w0.heap.size w0 W' := h.trans (hb.mono h.size)
theorem drewBelow {w0 W : World} (h : Below w0.drew.heap.size w0.drew W) : Below w0.heap.size w0 W := (Below.refl w0.heap.size w0).drew.trans h
theorem boxBelow {w0 W : World} (h : Below w0.heap.size w0 W) (o : Obj) : Below w0.heap.size w0 (W.alloc o) := h.alloc h.size o
theorem keep1 {w0 W : World} {p : Addr} {v : Value} (hp : p.block < w0.heap.size) (hc : w0.cell? p = some v) (h : Below w0.heap.size w0 W) : W.cell? p = some v ∧ Below w0.heap.size w0 W := ⟨(h.cell hp).trans hc, h⟩
theorem keep2 {w0 W : World} {p p' : Addr} {v v' : Value} (hp : p.block < w0.heap.size) (hc : w0.cell? p = some v) (hp' : p'.block < w0.heap.size) (hc' : w0.cell? p' = some v') (h : Below w0.heap.size w0 W) : (W.cell? p = some v ∧ W.cell? p' = some v') ∧ Below w0.heap.size w0 W := ⟨⟨(h.cell hp).trans hc, (h.cell hp').trans hc'⟩, h⟩
theorem keep3 {w0 W : World} {p p' q : Addr} {v v' u : Value} (hp : p.block < w0.heap.size) (hc : w0.cell? p = some v) (hp' : p'.block < w0.heap.size) (hc' : w0.cell? p' = some v') (hq : q.block < w0.heap.size) (hu : w0.cell? q = some u) (h : Below w0.heap.size w0 W) : (W.cell? p = some v ∧ W.cell? p' = some v' ∧ W.cell? q = some u) ∧ Below w0.heap.size w0 W := ⟨⟨(h.cell hp).trans hc, (h.cell hp').trans hc', (h.cell hq).trans hu⟩, h⟩
set_option maxRecDepth 100000 in
theorem leaf_any (wd : Int) (k v : Key) (A : Option Addr) (w : World) (hk : k.length ≤ maxLen) (hv : v.length ≤ maxLen) :
    Calls Try.prog 57 #[treeV wd A, .string (bs k), .string (bs v)] w fun e w' => ∃ q, e = .returned (.pointer (some ⟨q, 0, none⟩)) ∧ TrR wd w' w'.heap.size (.leaf k v) q ∧ Below w.heap.size w w' := by
  have hsh : Short [k, v] := fun x hx => by simp at hx; rcases hx with rfl | rfl <;> assumption
  unfold treeV
  go_enter Try.func57, Try.ntmps57
  go_wp2_with fail
  have hX : Blk (w.alloc (.cells #[.int .i64 wd, .pointer A] 53)) w.heap.size 53 #[.int .i64 wd, .pointer A] := Blk.new _ _ _
  have hB0 : Below w.heap.size w (w.alloc (.cells #[.int .i64 wd, .pointer A] 53)) := (Below.refl _ _).alloc (Nat.le_refl _) _
  generalize w.alloc (.cells #[.int .i64 wd, .pointer A] 53) = w0 at *
  have c0 : w0.cell? ⟨w.heap.size, 0, none⟩ = some (.int .i64 wd) := (hX.cell 0).trans rfl
  go_region_held3 (fun W => W.cell? ⟨w.heap.size, 0, none⟩ = some (.int .i64 wd) ∧ Below w0.heap.size w0 W) (refine keep1 hX.lt c0 ?_ <;> first | exact Below.refl _ _ | exact Below.drew (Below.refl _ _) | exact And.right (by assumption) | exact Below.drew (And.right (by assumption)) | exact callBelow (And.right (by assumption)) (by assumption) | exact boxBelow (And.right (by assumption)) _) (first
    | (go_at_call 104
       refine (entry_any k v _).mono ?_
       rintro e w2 ⟨x, rfl, ⟨A', c', rfl, hs', hf'⟩, hb2⟩)
    | (go_at_call 46
       refine (ofImage_any wd 3 [k, v] _ _ _ _ (by assumption) (Nat.le_refl _) (by simp [maxLen]) hsh).mono ?_
       rintro e w2 ⟨rfl, hb2⟩))
  all_goals
    go_wp2_with fail
    go_ret
    exact ⟨_, rfl, ⟨by simp, Blk.new _ _ _⟩, callBelow hB0 (And.right (by assumption))⟩
set_option maxRecDepth 100000 in
theorem trfork_any (wd : Int) (p : Nat) (l r : Tr) (a b : Nat) (A : Option Addr) (w : World) (hl : TrR wd w w.heap.size l a) (hr : TrR wd w w.heap.size r b) :
    Calls Try.prog 103 #[treeV wd A, .int .i64 (p : Int), .pointer (some ⟨a, 0, none⟩), .pointer (some ⟨b, 0, none⟩)] w fun e w' => ∃ q, e = .returned (.pointer (some ⟨q, 0, none⟩)) ∧ TrR wd w' w'.heap.size (.fork p l r) q ∧ Below w.heap.size w w' := by
  have hdl := digT_bd wd l
  have hdr := digT_bd wd r
  unfold treeV
  go_enter Try.func103, Try.ntmps103
  go_wp2_with fail
  have hX : Blk (w.alloc (.cells #[.int .i64 wd, .pointer A] 53)) w.heap.size 53 #[.int .i64 wd, .pointer A] := Blk.new _ _ _
  have hB0 : Below w.heap.size w (w.alloc (.cells #[.int .i64 wd, .pointer A] 53)) := (Below.refl _ _).alloc (Nat.le_refl _) _
  have hl0 := hl.up hB0
  have hr0 := hr.up hB0
  generalize w.alloc (.cells #[.int .i64 wd, .pointer A] 53) = w0 at *
  have c0 : w0.cell? ⟨w.heap.size, 0, none⟩ = some (.int .i64 wd) := (hX.cell 0).trans rfl
  have c1 := hl0.dig
  have c2 := hr0.dig
  have hsh : Short [be (p : Int) 5, be (digT wd l) 8, be (digT wd r) 8] := short3 _ _ _
  obtain ⟨D, hD⟩ : ∃ D : Int, D = ofS wd 4 [be (p : Int) 5, be (digT wd l) 8, be (digT wd r) 8] := ⟨_, rfl⟩
  have hfin : ∀ W : World, Below w0.heap.size w0 W → TrR wd (W.alloc (.cells #[.string (bs []), .string (bs []), .int .i64 (p : Int), .pointer (some ⟨a, 0, none⟩), .pointer (some ⟨b, 0, none⟩), .int .u64 D] 126)) (W.alloc (.cells #[.string (bs []), .string (bs []), .int .i64 (p : Int), .pointer (some ⟨a, 0, none⟩), .pointer (some ⟨b, 0, none⟩), .int .u64 D] 126)).heap.size (.fork p l r) W.heap.size := fun W hW => by
    refine ⟨by simp, a, b, ?_, ?_, ?_⟩
    · have hd : digT wd (.fork p l r) = D := by rw [hD]; rfl
      rw [hd]
      exact Blk.new _ _ _
    · exact ((hl0.up hW).below ((Below.refl _ _).alloc (Nat.le_refl _) _))
    · exact ((hr0.up hW).below ((Below.refl _ _).alloc (Nat.le_refl _) _))
  have HF := Lib.hid hfin
  clear hfin
  have hof := fun (A' : Option Addr) c' W (hs : Strs W W.heap.size A' [be (p : Int) 5, be (digT wd l) 8, be (digT wd r) 8]) => ofImage_any wd 4 [be (p : Int) 5, be (digT wd l) 8, be (digT wd r) 8] A' c' _ W hs (Nat.le_refl _) (by simp [maxLen]) hsh
  rw [← hD] at hof
  clear hD
  have hal := hl0.lt
  have hbl := hr0.lt
  go_region_held3 (fun W => (W.cell? ⟨w.heap.size, 0, none⟩ = some (.int .i64 wd) ∧ W.cell? ⟨a, 5, none⟩ = some (.int .u64 (digT wd l)) ∧ W.cell? ⟨b, 5, none⟩ = some (.int .u64 (digT wd r))) ∧ Below w0.heap.size w0 W) (refine keep3 hX.lt c0 hal c1 hbl c2 ?_ <;> first | exact Below.refl _ _ | exact Below.drew (Below.refl _ _) | exact And.right (by assumption) | exact Below.drew (And.right (by assumption)) | exact callBelow (And.right (by assumption)) (by assumption) | exact boxBelow (And.right (by assumption)) _) (first
    | (go_at_call 134
       refine (fork_any p (digT wd l) (digT wd r) _ hdl.1 hdl.2 hdr.1 hdr.2).mono ?_
       rintro e w2 ⟨x, rfl, ⟨A', c', rfl, hs', hf'⟩, hb2⟩)
    | (go_at_call 46
       refine (hof _ _ _ (by assumption)).mono ?_
       rintro e w2 ⟨rfl, hb2⟩))
  all_goals
    go_wp2_with fail
    go_ret
    exact ⟨_, rfl, HF.out _ (callBelow (drewBelow (by assumption)) hb2), callBelow hB0 (And.right (by assumption))⟩
end Go.Proofs.Ytjjkdmngmopjbaa

namespace Go.Proofs.Ytjjkdmngmopjbaa
open Go.RowKit
def ptrNo : Value → Nat
  | .pointer (some p) => p.block
  | _ => 0
set_option maxRecDepth 100000 in
theorem side_any (k : Key) (p a b q : Nat) (w : World) (hk : k.length ≤ 1000000000) (hp : p ≤ 1000000) (h2 : w.cell? ⟨q, 2, none⟩ = some (.int .i64 (p : Int))) (h3 : w.cell? ⟨q, 3, none⟩ = some (.pointer (some ⟨a, 0, none⟩))) (h4 : w.cell? ⟨q, 4, none⟩ = some (.pointer (some ⟨b, 0, none⟩))) :
    Calls Try.prog 67 #[.pointer (some ⟨q, 0, none⟩), .string (bs k)] w fun e w' => e = .returned (.pointer (some ⟨if bitB k p then b else a, 0, none⟩)) ∧ w = w' := by
  have hc := bit_any k p w hk (by omega)
  have hN : bitN k p = if bitB k p then 1 else 0 := rfl
  rw [hN] at hc
  clear hN
  generalize bitB k p = bb at *
  cases bb <;>
    · simp only [Bool.false_eq_true, if_false, if_true] at hc ⊢
      go_enter Try.func67, Try.ntmps67
      go_wp2_with fail
      refine hc.mono ?_
      rintro e w1 ⟨rfl, rfl⟩
      go_wp2_with fail
      go_ret
      exact ⟨rfl, rfl⟩
/-- a leaf in memory, wherever it is -/
def LeafR (wd : Int) (w : World) (B : Nat) (x : Ent) (q : Nat) : Prop := TrR wd w B (.leaf x.1 x.2) q
set_option maxRecDepth 100000 in
theorem find_any (wd : Int) (k : Key) (t : Tr) (q : Nat) (w : World) (hk : k.length ≤ 1000000000) (hlow : lowT t) (h : TrR wd w w.heap.size t q) :
    Calls Try.prog 55 #[treeV wd (some ⟨q, 0, none⟩), .string (bs k)] w fun e w' => ∃ q', e = .returned (.pointer (some ⟨q', 0, none⟩)) ∧ LeafR wd w' w.heap.size (t.find k) q' ∧ Below w.heap.size w w' := by
  have h0 : TrR wd (w.alloc (.cells #[.int .i64 wd, .pointer (some ⟨q, 0, none⟩)] 53)) w.heap.size t q := h.below ((Below.refl _ _).alloc (Nat.le_refl _) _)
  have hB0 : Below w.heap.size w (w.alloc (.cells #[.int .i64 wd, .pointer (some ⟨q, 0, none⟩)] 53)) := (Below.refl _ _).alloc (Nat.le_refl _) _
  have hR : Hid (∃ t' : Tr, TrR wd (w.alloc (.cells #[.int .i64 wd, .pointer (some ⟨q, 0, none⟩)] 53)) w.heap.size t' q ∧ lowT t' ∧ t'.find k = t.find k) := ⟨t, h0, hlow, rfl⟩
  clear h0 h hlow
  unfold treeV
  go_enter Try.func55, Try.ntmps55
  go_wp2_with fail
  generalize w.alloc (.cells #[.int .i64 wd, .pointer (some ⟨q, 0, none⟩)] 53) = w0 at *
  go_loop [5] (fun x => ∃ q' : Nat, x = .pointer (some ⟨q', 0, none⟩) ∧ Hid (∃ t' : Tr, TrR wd w0 w.heap.size t' q' ∧ lowT t' ∧ t'.find k = t.find k)) (fun x => ptrNo x)
  case atStart => exact ⟨q, rfl, hR⟩
  case round =>
    clear hR
    obtain ⟨q', rfl, t', ht, hlow, hf⟩ := hrel
    have hpos := ht.pos
    cases t' with
    | leaf a v =>
      have hLf : Hid (LeafR wd w0 w.heap.size (t.find k) q') := by show LeafR _ _ _ _ _; rw [← hf]; exact ht
      clear hf ht
      unfold posT at hpos
      go_wp2_with fail
      go_ret
      exact ⟨_, rfl, hLf.out, hB0⟩
    | fork p l r =>
      obtain ⟨hq, a, b, hblk, hl, hr⟩ := ht
      obtain ⟨hp, hll, hlr⟩ := hlow
      have h3 := (hblk.cell 3).trans (show _ = some (Value.pointer (some ⟨a, 0, none⟩)) from rfl)
      have h4 := (hblk.cell 4).trans (show _ = some (Value.pointer (some ⟨b, 0, none⟩)) from rfl)
      unfold posT at hpos
      have hge : decide ((0 : Int) ≤ (p : Int)) = true := decide_eq_true (by omega)
      have hal := hl.lt
      have hbl := hr.lt
      have hnext : Hid (∃ t' : Tr, TrR wd w0 w.heap.size t' (if bitB k p then b else a) ∧ lowT t' ∧ t'.find k = t.find k) := by
        show ∃ _, _
        rw [← hf, show (Tr.fork p l r).find k = if bitB k p then r.find k else l.find k from rfl]
        split
        · exact ⟨r, hr.more (by omega), hlr, rfl⟩
        · exact ⟨l, hl.more (by omega), hll, rfl⟩
      have hlt : (if bitB k p then b else a) < q' := by split <;> omega
      have hc := side_any k p a b q' w0 hk hp hpos h3 h4
      generalize (if bitB k p then b else a) = c at *
      clear hl hr hll hlr hf hblk
      go_wp2_with fail
      refine hc.mono ?_
      rintro e w1 ⟨rfl, rfl⟩
      go_wp2_with fail
      go_round
      case rel => exact ⟨c, rfl, hnext⟩
      case measure => simpa [ptrNo] using hlt
set_option maxRecDepth 100000 in
theorem findNo_any (wd : Int) (k : Key) (w : World) :
    Calls Try.prog 55 #[treeV wd none, .string (bs k)] w fun e w' => e = .returned (.pointer none) ∧ Below w.heap.size w w' := by
  unfold treeV
  go_enter Try.func55, Try.ntmps55
  go_wp2_with fail
  go_loop [5] (fun x => x = .pointer none) (fun x => ptrNo x)
  case atStart => rfl
  case round =>
    subst hrel
    go_wp2_with fail
    go_ret
    exact ⟨rfl, (Below.refl _ _).alloc (Nat.le_refl _) _⟩
def getO (k : Key) (t : Option Tr) : Key := getL k (Tr.oitems t)
set_option maxRecDepth 100000 in
theorem get_any (wd : Int) (k : Key) (t : Option Tr) (a : Option Addr) (w : World) (hk : k.length ≤ 1000000000) (hok : Tr.ook t) (hlow : ∀ u, t = some u → lowT u) (h : OTrR wd w w.heap.size t a) :
    Calls Try.prog 17 #[treeV wd a, .string (bs k)] w fun e w' => e = .returned (.string (bs (getL k (Tr.oitems t)))) ∧ Below w.heap.size w w' := by
  cases t with
  | none =>
    obtain rfl : a = none := h
    have hf := fun W => findNo_any wd k W
    unfold treeV at hf ⊢
    have hg : getL k (Tr.oitems none) = [] := rfl
    rw [hg]
    clear hg hok hlow
    go_enter Try.func17, Try.ntmps17
    go_wp2_with fail
    refine (hf _).mono ?_
    rintro e w1 ⟨rfl, hb1⟩
    go_wp2_with fail
    go_ret
    exact ⟨rfl, ((Below.refl _ _).alloc (Nat.le_refl _) _).trans (hb1.mono (by simp))⟩
  | some t =>
    obtain ⟨q, rfl, h⟩ := h
    have hlow := hlow t rfl
    have hB0 : Below w.heap.size w (w.alloc (.cells #[.int .i64 wd, .pointer (some ⟨q, 0, none⟩)] 53)) := (Below.refl _ _).alloc (Nat.le_refl _) _
    have hf := find_any wd k t q _ hk hlow (h.up hB0)
    have HY := Lib.hid (fun e => Tr.get_yes (k := k) (t := t) hok e)
    have HN := Lib.hid (fun e => Tr.get_no (k := k) (t := t) hok e)
    rw [show Tr.oitems (some t) = t.items from rfl]
    generalize getL k t.items = G at *
    generalize t.find k = x at *
    clear h hlow hok
    unfold treeV at hf ⊢
    go_enter Try.func17, Try.ntmps17
    go_wp2_with fail
    refine hf.mono ?_
    rintro e w1 ⟨q', rfl, ⟨hq', hblk⟩, hb1⟩
    obtain ⟨xk, xv⟩ := x
    have h0 := (hblk.cell 0).trans (show _ = some (Value.string (bs xk)) from rfl)
    have h1 := (hblk.cell 1).trans (show _ = some (Value.string (bs xv)) from rfl)
    by_cases he : xk = k
    · subst he
      obtain rfl := HY.out rfl
      clear HN HY hblk
      go_wp2_with fail
      go_ret
      exact ⟨rfl, hB0.trans (hb1.mono hB0.size)⟩
    · obtain rfl := HN.out he
      have hd : (xk == k) = false := beq_eq_false_iff_ne.2 he
      clear HN HY hblk
      go_wp2_with fail
      go_ret
      exact ⟨rfl, hB0.trans (hb1.mono hB0.size)⟩
end Go.Proofs.Ytjjkdmngmopjbaa

namespace Go.Proofs.Ytjjkdmngmopjbaa
open Go.RowKit
/-- cells that stay -/
theorem keepBox {w0 W : World} {g : Nat} {t : TypeId} {wd : Int} {A : Option Addr} (hX : Blk w0 g t #[.int .i64 wd, .pointer A]) (h : Below w0.heap.size w0 W) : (W.cell? ⟨g, 0, none⟩ = some (.int .i64 wd) ∧ W.cell? ⟨g, 1, none⟩ = some (.pointer A)) ∧ Below w0.heap.size w0 W :=
  ⟨⟨((hX.below h hX.lt).cell 0).trans rfl, ((hX.below h hX.lt).cell 1).trans rfl⟩, h⟩
set_option maxRecDepth 100000 in
set_option maxHeartbeats 2000000 in
/-- a node at the top, with a key beside it -/
theorem withTop_any (wd : Int) (k v : Key) (p : Nat) (t : Tr) (q : Nat) (A : Option Addr) (w : World) (hk : k.length ≤ 1000000000) (hv : v.length ≤ maxLen) (hp : p ≤ 1000000) (hpos : posT t < 0 ∨ (p : Int) < posT t) (h : TrR wd w w.heap.size t q) :
    Calls Try.prog 58 #[treeV wd A, .pointer (some ⟨q, 0, none⟩), .string (bs k), .string (bs v), .int .i64 (p : Int)] w fun e w' => ∃ q', e = .returned (.pointer (some ⟨q', 0, none⟩)) ∧ TrR wd w' w'.heap.size (if bitB k p then .fork p t (.leaf k v) else .fork p (.leaf k v) t) q' ∧ Below w.heap.size w w' := by
  have hbit := fun W => bit_any k p W hk (by omega)
  have hN : bitN k p = if bitB k p then 1 else 0 := rfl
  rw [hN] at hbit
  clear hN
  have hX : Blk (w.alloc (.cells #[.int .i64 wd, .pointer A] 53)) w.heap.size 53 #[.int .i64 wd, .pointer A] := Blk.new _ _ _
  have hB0 : Below w.heap.size w (w.alloc (.cells #[.int .i64 wd, .pointer A] 53)) := (Below.refl _ _).alloc (Nat.le_refl _) _
  have h0 := h.up hB0
  have hq2 := h0.pos
  have hge : decide ((0 : Int) ≤ (p : Int)) = true := decide_eq_true (by omega)
  have hkl : k.length ≤ maxLen := by unfold maxLen; omega
  have HL := Lib.hid (fun W => leaf_any wd k v A W hkl hv)
  have HF := Lib.hid (fun a b (l r : Tr) W h1 h2 => trfork_any wd p l r a b A W h1 h2)
  unfold treeV at *
  generalize bitB k p = bb at *
  generalize posT t = pos at *
  clear h
  generalize hw0 : w.alloc (.cells #[.int .i64 wd, .pointer A] 53) = w0 at *
  have hcase : (decide (pos < 0) = true) ∨ (decide (pos < 0) = false ∧ decide ((p : Int) < pos) = true) := by
    by_cases hn : pos < 0
    · exact .inl (decide_eq_true hn)
    · exact .inr ⟨decide_eq_false hn, decide_eq_true (by omega)⟩
  clear hpos
  rcases hcase with d1 | ⟨d1, d2⟩ <;> cases bb <;> simp only [Bool.false_eq_true, if_false, if_true] at hbit ⊢
  all_goals
    go_enter Try.func58, Try.ntmps58
    go_wp2_with fail
    refine (hbit _).mono ?_
    rintro e w1 ⟨rfl, rfl⟩
    clear hbit
    go_wp2_with fail
    go_region_held3 (fun W => (W.cell? ⟨w.heap.size, 0, none⟩ = some (.int .i64 wd) ∧ W.cell? ⟨w.heap.size, 1, none⟩ = some (.pointer A)) ∧ Below w0.heap.size w0 W) (refine keepBox hX ?_ <;> first | exact Below.refl _ _ | exact Below.drew (Below.refl _ _) | exact And.right (by assumption) | exact Below.drew (And.right (by assumption)) | exact callBelow (And.right (by assumption)) (by assumption)) (first
      | (go_at_call 57
         with_reducible refine (HL.out _).mono ?_
         rintro e w2 ⟨ql, rfl, htl, hb2⟩)
      | (go_at_call 103
         refine (HF.out _ _ _ _ _ (by first | assumption | exact h0.up (And.right (by assumption))) (by first | assumption | exact h0.up (And.right (by assumption)))).mono ?_
         rintro e w3 ⟨qf, rfl, htf, hb3⟩))
    all_goals
      go_wp2_with fail
      go_ret
      exact ⟨_, rfl, by assumption, callBelow hB0 (And.right (by assumption))⟩
end Go.Proofs.Ytjjkdmngmopjbaa

namespace Go.Proofs.Ytjjkdmngmopjbaa
open Go.RowKit
theorem keepNode {w0 W : World} {g q a b p : Nat} {t : TypeId} {wd : Int} {A : Option Addr} {D : Value} {u0 u1 : Value} (hX : Blk w0 g t #[.int .i64 wd, .pointer A]) (hN : Blk w0 q 126 #[u0, u1, .int .i64 (p : Int), .pointer (some ⟨a, 0, none⟩), .pointer (some ⟨b, 0, none⟩), D]) (h : Below w0.heap.size w0 W) :
    (W.cell? ⟨g, 0, none⟩ = some (.int .i64 wd) ∧ W.cell? ⟨g, 1, none⟩ = some (.pointer A) ∧ W.cell? ⟨q, 2, none⟩ = some (.int .i64 (p : Int)) ∧ W.cell? ⟨q, 3, none⟩ = some (.pointer (some ⟨a, 0, none⟩)) ∧ W.cell? ⟨q, 4, none⟩ = some (.pointer (some ⟨b, 0, none⟩))) ∧ Below w0.heap.size w0 W :=
  ⟨⟨((hX.below h hX.lt).cell 0).trans rfl, ((hX.below h hX.lt).cell 1).trans rfl, ((hN.below h hN.lt).cell 2).trans rfl, ((hN.below h hN.lt).cell 3).trans rfl, ((hN.below h hN.lt).cell 4).trans rfl⟩, h⟩
set_option maxRecDepth 100000 in
set_option maxHeartbeats 4000000 in
/-- one step down -/
theorem withStep_any (wd : Int) (k v : Key) (P : Int) (p : Nat) (l r l' r' : Tr) (q : Nat) (A : Option Addr) (w : World) (hk : k.length ≤ 1000000000) (hp : p ≤ 1000000) (hP : P < 0 ∨ (0 ≤ P ∧ (p : Int) ≤ P)) (h : TrR wd w w.heap.size (.fork p l r) q)
    (hL : bitB k p = false → ∀ a W, TrR wd W W.heap.size l a → Calls Try.prog 58 #[treeV wd A, .pointer (some ⟨a, 0, none⟩), .string (bs k), .string (bs v), .int .i64 P] W fun e w' => ∃ q', e = .returned (.pointer (some ⟨q', 0, none⟩)) ∧ TrR wd w' w'.heap.size l' q' ∧ Below W.heap.size W w')
    (hR : bitB k p = true → ∀ a W, TrR wd W W.heap.size r a → Calls Try.prog 58 #[treeV wd A, .pointer (some ⟨a, 0, none⟩), .string (bs k), .string (bs v), .int .i64 P] W fun e w' => ∃ q', e = .returned (.pointer (some ⟨q', 0, none⟩)) ∧ TrR wd w' w'.heap.size r' q' ∧ Below W.heap.size W w') :
    Calls Try.prog 58 #[treeV wd A, .pointer (some ⟨q, 0, none⟩), .string (bs k), .string (bs v), .int .i64 P] w fun e w' => ∃ q', e = .returned (.pointer (some ⟨q', 0, none⟩)) ∧ TrR wd w' w'.heap.size (if bitB k p then .fork p l r' else .fork p l' r) q' ∧ Below w.heap.size w w' := by
  have hbit := fun W => bit_any k p W hk (by omega)
  have hN : bitN k p = if bitB k p then 1 else 0 := rfl
  rw [hN] at hbit
  clear hN
  have hX : Blk (w.alloc (.cells #[.int .i64 wd, .pointer A] 53)) w.heap.size 53 #[.int .i64 wd, .pointer A] := Blk.new _ _ _
  have hB0 : Below w.heap.size w (w.alloc (.cells #[.int .i64 wd, .pointer A] 53)) := (Below.refl _ _).alloc (Nat.le_refl _) _
  obtain ⟨hq, a, b, hblk, hl, hr⟩ := h.up hB0
  have hl0 := hl.more (Nat.le_of_lt hq)
  have hr0 := hr.more (Nat.le_of_lt hq)
  have hq2 := (hblk.cell 2).trans (show _ = some (Value.int .i64 (p : Int)) from rfl)
  have hq3 := (hblk.cell 3).trans (show _ = some (Value.pointer (some ⟨a, 0, none⟩)) from rfl)
  have hq4 := (hblk.cell 4).trans (show _ = some (Value.pointer (some ⟨b, 0, none⟩)) from rfl)
  have hge : decide ((p : Int) < 0) = false := decide_eq_false (by omega)
  have HF := Lib.hid (fun a b (l r : Tr) W h1 h2 => trfork_any wd p l r a b A W h1 h2)
  have HL := Lib.hid hL
  have HR := Lib.hid hR
  unfold treeV at *
  generalize bitB k p = bb at *
  clear h hL hR hl hr
  generalize hw0 : w.alloc (.cells #[.int .i64 wd, .pointer A] 53) = w0 at *
  have hcase : (decide ((0 : Int) ≤ P) = false) ∨ (decide ((0 : Int) ≤ P) = true ∧ decide (P < (p : Int)) = false) := by
    rcases hP with hn | ⟨h1, h2⟩
    · exact .inl (decide_eq_false (by omega))
    · exact .inr ⟨decide_eq_true h1, decide_eq_false (by omega)⟩
  clear hP
  rcases hcase with d1 | ⟨d1, d2⟩ <;> cases bb <;> simp only [Bool.false_eq_true, if_false, if_true] at hbit ⊢
  all_goals
    go_enter Try.func58, Try.ntmps58
    go_wp2_with fail
    refine (hbit _).mono ?_
    rintro e w1 ⟨rfl, rfl⟩
    clear hbit
    go_wp2_with fail
    go_region_held3 (fun W => (W.cell? ⟨w.heap.size, 0, none⟩ = some (.int .i64 wd) ∧ W.cell? ⟨w.heap.size, 1, none⟩ = some (.pointer A) ∧ W.cell? ⟨q, 2, none⟩ = some (.int .i64 (p : Int)) ∧ W.cell? ⟨q, 3, none⟩ = some (.pointer (some ⟨a, 0, none⟩)) ∧ W.cell? ⟨q, 4, none⟩ = some (.pointer (some ⟨b, 0, none⟩))) ∧ Below w0.heap.size w0 W) (refine keepNode hX hblk ?_ <;> first | exact Below.refl _ _ | exact Below.drew (Below.refl _ _) | exact And.right (by assumption) | exact Below.drew (And.right (by assumption)) | exact callBelow (And.right (by assumption)) (by assumption)) (first
      | (go_at_call 58
         first
          | with_reducible refine (HL.out (by trivial) _ _ (by first | exact hl0 | exact hl0.up (Below.drew (Below.refl _ _)) | exact hl0.up (And.right (by assumption)))).mono ?_
          | with_reducible refine (HR.out (by trivial) _ _ (by first | exact hr0 | exact hr0.up (Below.drew (Below.refl _ _)) | exact hr0.up (And.right (by assumption)))).mono ?_
         rintro e w2 ⟨ql, rfl, htl, hb2⟩)
      | (go_at_call 103
         refine (HF.out _ _ _ _ _ (by first | assumption | exact hl0.up (And.right (by assumption))) (by first | assumption | exact hr0.up (And.right (by assumption)))).mono ?_
         rintro e w3 ⟨qf, rfl, htf, hb3⟩))
    all_goals
      go_wp2_with fail
      go_ret
      exact ⟨_, rfl, by assumption, callBelow hB0 (And.right (by assumption))⟩
set_option maxRecDepth 100000 in
theorem withLeaf_any (wd : Int) (k v a x : Key) (q : Nat) (A : Option Addr) (w : World) (hk : k.length ≤ maxLen) (hv : v.length ≤ maxLen) (h : TrR wd w w.heap.size (.leaf a x) q) :
    Calls Try.prog 58 #[treeV wd A, .pointer (some ⟨q, 0, none⟩), .string (bs k), .string (bs v), .int .i64 (-1)] w fun e w' => ∃ q', e = .returned (.pointer (some ⟨q', 0, none⟩)) ∧ TrR wd w' w'.heap.size (.leaf k v) q' ∧ Below w.heap.size w w' := by
  have hX : Blk (w.alloc (.cells #[.int .i64 wd, .pointer A] 53)) w.heap.size 53 #[.int .i64 wd, .pointer A] := Blk.new _ _ _
  have hB0 : Below w.heap.size w (w.alloc (.cells #[.int .i64 wd, .pointer A] 53)) := (Below.refl _ _).alloc (Nat.le_refl _) _
  have h0 := (h.up hB0).pos
  unfold posT at h0
  have HL := Lib.hid (fun W => leaf_any wd k v A W hk hv)
  unfold treeV at *
  clear h
  generalize hw0 : w.alloc (.cells #[.int .i64 wd, .pointer A] 53) = w0 at *
  have c0 := (hX.cell 0).trans (show _ = some (Value.int .i64 wd) from rfl)
  have c1 := (hX.cell 1).trans (show _ = some (Value.pointer A) from rfl)
  go_enter Try.func58, Try.ntmps58
  go_wp2_with fail
  refine (HL.out _).mono ?_
  rintro e w2 ⟨q', rfl, ht, hb2⟩
  go_wp2_with fail
  go_ret
  exact ⟨_, rfl, ht, callBelow hB0 hb2⟩
theorem withIns_any (wd : Int) (k v : Key) (p : Nat) (A : Option Addr) (hk : k.length ≤ 1000000000) (hv : v.length ≤ maxLen) (hp : p ≤ 1000000) : ∀ (t : Tr) (q : Nat) (w : World), lowT t → TrR wd w w.heap.size t q →
    Calls Try.prog 58 #[treeV wd A, .pointer (some ⟨q, 0, none⟩), .string (bs k), .string (bs v), .int .i64 (p : Int)] w fun e w' => ∃ q', e = .returned (.pointer (some ⟨q', 0, none⟩)) ∧ TrR wd w' w'.heap.size (t.ins k v p) q' ∧ Below w.heap.size w w'
  | .leaf a x, q, w, _, h => withTop_any wd k v p (.leaf a x) q A w hk hv hp (.inl (by simp [posT])) h
  | .fork p0 l r, q, w, hlow, h => by
    rw [Tr.ins]
    by_cases hlt : p < p0
    · rw [if_pos hlt]
      exact withTop_any wd k v p (.fork p0 l r) q A w hk hv hp (.inr (by simp [posT]; omega)) h
    · rw [if_neg hlt]
      exact withStep_any wd k v p p0 l r (l.ins k v p) (r.ins k v p) q A w hk hlow.1 (.inr ⟨by omega, by omega⟩) h
        (fun _ a W ha => withIns_any wd k v p A hk hv hp l a W hlow.2.1 ha) (fun _ a W ha => withIns_any wd k v p A hk hv hp r a W hlow.2.2 ha)
theorem withUpd_any (wd : Int) (k v : Key) (A : Option Addr) (hk : k.length ≤ 1000000000) (hv : v.length ≤ maxLen) : ∀ (t : Tr) (q : Nat) (w : World), lowT t → TrR wd w w.heap.size t q →
    Calls Try.prog 58 #[treeV wd A, .pointer (some ⟨q, 0, none⟩), .string (bs k), .string (bs v), .int .i64 (-1)] w fun e w' => ∃ q', e = .returned (.pointer (some ⟨q', 0, none⟩)) ∧ TrR wd w' w'.heap.size (t.upd k v) q' ∧ Below w.heap.size w w'
  | .leaf a x, q, w, _, h => withLeaf_any wd k v a x q A w (by unfold maxLen; omega) hv h
  | .fork p0 l r, q, w, hlow, h => by
    rw [Tr.upd]
    exact withStep_any wd k v (-1) p0 l r (l.upd k v) (r.upd k v) q A w hk hlow.1 (.inl (by omega)) h
        (fun _ a W ha => withUpd_any wd k v A hk hv l a W hlow.2.1 ha) (fun _ a W ha => withUpd_any wd k v A hk hv r a W hlow.2.2 ha)
end Go.Proofs.Ytjjkdmngmopjbaa

namespace Go.Proofs.Ytjjkdmngmopjbaa
open Go.RowKit
def joinL (p : Nat) (l' : Option Tr) (r : Tr) : Option Tr := match l' with | none => some r | some l' => some (.fork p l' r)
def joinR (p : Nat) (l : Tr) (r' : Option Tr) : Option Tr := match r' with | none => some l | some r' => some (.fork p l r')
set_option maxRecDepth 100000 in
set_option maxHeartbeats 4000000 in
theorem withoutStep_any (wd : Int) (k : Key) (p : Nat) (l r : Tr) (l' r' : Option Tr) (q : Nat) (A : Option Addr) (w : World) (hk : k.length ≤ 1000000000) (hp : p ≤ 1000000) (h : TrR wd w w.heap.size (.fork p l r) q)
    (hL : bitB k p = false → ∀ a W, TrR wd W W.heap.size l a → Calls Try.prog 56 #[treeV wd A, .pointer (some ⟨a, 0, none⟩), .string (bs k)] W fun e w' => ∃ a', e = .returned (.pointer a') ∧ OTrR wd w' w'.heap.size l' a' ∧ Below W.heap.size W w')
    (hR : bitB k p = true → ∀ a W, TrR wd W W.heap.size r a → Calls Try.prog 56 #[treeV wd A, .pointer (some ⟨a, 0, none⟩), .string (bs k)] W fun e w' => ∃ a', e = .returned (.pointer a') ∧ OTrR wd w' w'.heap.size r' a' ∧ Below W.heap.size W w') :
    Calls Try.prog 56 #[treeV wd A, .pointer (some ⟨q, 0, none⟩), .string (bs k)] w fun e w' => ∃ a', e = .returned (.pointer a') ∧ OTrR wd w' w'.heap.size (if bitB k p then joinR p l r' else joinL p l' r) a' ∧ Below w.heap.size w w' := by
  have hbit := fun W => bit_any k p W hk (by omega)
  have hN : bitN k p = if bitB k p then 1 else 0 := rfl
  rw [hN] at hbit
  clear hN
  have hX : Blk (w.alloc (.cells #[.int .i64 wd, .pointer A] 53)) w.heap.size 53 #[.int .i64 wd, .pointer A] := Blk.new _ _ _
  have hB0 : Below w.heap.size w (w.alloc (.cells #[.int .i64 wd, .pointer A] 53)) := ((Below.refl _ _).alloc (Nat.le_refl _) _)
  obtain ⟨hq, a, b, hblk, hl, hr⟩ := h.up hB0
  have hl0 := hl.more (Nat.le_of_lt hq)
  have hr0 := hr.more (Nat.le_of_lt hq)
  have hq2 := (hblk.cell 2).trans (show _ = some (Value.int .i64 (p : Int)) from rfl)
  have hq3 := (hblk.cell 3).trans (show _ = some (Value.pointer (some ⟨a, 0, none⟩)) from rfl)
  have hq4 := (hblk.cell 4).trans (show _ = some (Value.pointer (some ⟨b, 0, none⟩)) from rfl)
  have hge : decide ((p : Int) < 0) = false := decide_eq_false (by omega)
  have HF := Lib.hid (fun a b (l r : Tr) W h1 h2 => trfork_any wd p l r a b A W h1 h2)
  have HL := Lib.hid hL
  have HR := Lib.hid hR
  unfold treeV at *
  generalize hw0 : w.alloc (.cells #[.int .i64 wd, .pointer A] 53) = w0 at *
  generalize bitB k p = bb at *
  clear h hL hR hl hr
  cases bb
  · simp only [Bool.false_eq_true, if_false, if_true] at hbit ⊢
    go_enter Try.func56, Try.ntmps56
    go_wp2_with fail
    go_quiet (fail)
    go_wp2_with fail
    refine (hbit _).mono ?_
    rintro e w1 ⟨rfl, hw1⟩
    have hd : Below w0.heap.size w0 w1 := by rw [← hw1]; exact (Below.refl _ _).drewN _
    clear hw1
    have hl1 := hl0.up hd
    have hr1 := hr0.up hd
    have hX1 := hX.below hd hX.lt
    have hblk1 := hblk.below hd hblk.lt
    have hB1 := callBelow hB0 hd
    clear hl0 hr0 hX hblk hq2 hq3 hq4 hB0 hd hq
    have c0 := (hX1.cell 0).trans (show _ = some (Value.int .i64 wd) from rfl)
    have c1 := (hX1.cell 1).trans (show _ = some (Value.pointer A) from rfl)
    clear hbit
    go_wp2_with fail
    with_reducible refine (HL.out (by trivial) _ _ hl1).mono ?_
    rintro e w2 ⟨a', rfl, ho, hb2⟩
    have hl2 := hl1.up hb2
    have hr2 := hr1.up hb2
    have hX2 := hX1.below hb2 hX1.lt
    have hblk2 := hblk1.below hb2 hblk1.lt
    have hB2 := callBelow hB1 hb2
    clear hl1 hr1 hX1 hblk1 HL HR hB1 hb2 c0 c1
    cases l' with
    | none =>
      obtain rfl : a' = none := ho
      clear HF
      go_wp2_with fail
      go_ret
      exact ⟨_, rfl, ⟨_, rfl, hr2⟩, hB2⟩
    | some u =>
      obtain ⟨qu, rfl, hu⟩ := ho
      go_wp2_with fail
      go_region_held3 (fun W => (W.cell? ⟨w.heap.size, 0, none⟩ = some (.int .i64 wd) ∧ W.cell? ⟨w.heap.size, 1, none⟩ = some (.pointer A) ∧ W.cell? ⟨q, 2, none⟩ = some (.int .i64 (p : Int)) ∧ W.cell? ⟨q, 3, none⟩ = some (.pointer (some ⟨a, 0, none⟩)) ∧ W.cell? ⟨q, 4, none⟩ = some (.pointer (some ⟨b, 0, none⟩))) ∧ Below w2.heap.size w2 W) (refine keepNode hX2 hblk2 ?_ <;> first | exact Below.refl _ _ | exact Below.drew (Below.refl _ _) | exact And.right (by assumption) | exact Below.drew (And.right (by assumption)) | exact callBelow (And.right (by assumption)) (by assumption)) (first
        | (go_at_call 103
           refine (HF.out _ _ _ _ _ (by first | assumption | exact hu.up (Below.drew (Below.refl _ _)) | exact hu.up (And.right (by assumption))) (by first | assumption | exact hr2.up (Below.drew (Below.refl _ _)) | exact hr2.up (And.right (by assumption)))).mono ?_
           rintro e w3 ⟨qf, rfl, htf, hb3⟩))
      all_goals
        go_wp2_with fail
        go_ret
        exact ⟨_, rfl, ⟨_, rfl, by assumption⟩, callBelow hB2 (And.right (by assumption))⟩
  · simp only [Bool.false_eq_true, if_false, if_true] at hbit ⊢
    go_enter Try.func56, Try.ntmps56
    go_wp2_with fail
    go_quiet (fail)
    go_wp2_with fail
    refine (hbit _).mono ?_
    rintro e w1 ⟨rfl, hw1⟩
    have hd : Below w0.heap.size w0 w1 := by rw [← hw1]; exact (Below.refl _ _).drewN _
    clear hw1
    have hl1 := hl0.up hd
    have hr1 := hr0.up hd
    have hX1 := hX.below hd hX.lt
    have hblk1 := hblk.below hd hblk.lt
    have hB1 := callBelow hB0 hd
    clear hl0 hr0 hX hblk hq2 hq3 hq4 hB0 hd hq
    have c0 := (hX1.cell 0).trans (show _ = some (Value.int .i64 wd) from rfl)
    have c1 := (hX1.cell 1).trans (show _ = some (Value.pointer A) from rfl)
    clear hbit
    go_wp2_with fail
    with_reducible refine (HR.out (by trivial) _ _ hr1).mono ?_
    rintro e w2 ⟨a', rfl, ho, hb2⟩
    have hl2 := hl1.up hb2
    have hr2 := hr1.up hb2
    have hX2 := hX1.below hb2 hX1.lt
    have hblk2 := hblk1.below hb2 hblk1.lt
    have hB2 := callBelow hB1 hb2
    clear hl1 hr1 hX1 hblk1 HL HR hB1 hb2 c0 c1
    cases r' with
    | none =>
      obtain rfl : a' = none := ho
      clear HF
      go_wp2_with fail
      go_ret
      exact ⟨_, rfl, ⟨_, rfl, hl2⟩, hB2⟩
    | some u =>
      obtain ⟨qu, rfl, hu⟩ := ho
      go_wp2_with fail
      go_region_held3 (fun W => (W.cell? ⟨w.heap.size, 0, none⟩ = some (.int .i64 wd) ∧ W.cell? ⟨w.heap.size, 1, none⟩ = some (.pointer A) ∧ W.cell? ⟨q, 2, none⟩ = some (.int .i64 (p : Int)) ∧ W.cell? ⟨q, 3, none⟩ = some (.pointer (some ⟨a, 0, none⟩)) ∧ W.cell? ⟨q, 4, none⟩ = some (.pointer (some ⟨b, 0, none⟩))) ∧ Below w2.heap.size w2 W) (refine keepNode hX2 hblk2 ?_ <;> first | exact Below.refl _ _ | exact Below.drew (Below.refl _ _) | exact And.right (by assumption) | exact Below.drew (And.right (by assumption)) | exact callBelow (And.right (by assumption)) (by assumption)) (first
        | (go_at_call 103
           refine (HF.out _ _ _ _ _ (by first | assumption | exact hl2.up (Below.drew (Below.refl _ _)) | exact hl2.up (And.right (by assumption))) (by first | assumption | exact hu.up (Below.drew (Below.refl _ _)) | exact hu.up (And.right (by assumption)))).mono ?_
           rintro e w3 ⟨qf, rfl, htf, hb3⟩))
      all_goals
        go_wp2_with fail
        go_ret
        exact ⟨_, rfl, ⟨_, rfl, by assumption⟩, callBelow hB2 (And.right (by assumption))⟩
theorem del_fork (k : Key) (p : Nat) (l r : Tr) : (Tr.fork p l r).del k = if bitB k p then joinR p l (r.del k) else joinL p (l.del k) r := by
  rw [Tr.del]
  unfold joinR joinL
  split <;> rfl
set_option maxRecDepth 100000 in
theorem withoutLeaf_any (wd : Int) (k a x : Key) (q : Nat) (A : Option Addr) (w : World) (h : TrR wd w w.heap.size (.leaf a x) q) :
    Calls Try.prog 56 #[treeV wd A, .pointer (some ⟨q, 0, none⟩), .string (bs k)] w fun e w' => ∃ a', e = .returned (.pointer a') ∧ OTrR wd w' w'.heap.size none a' ∧ Below w.heap.size w w' := by
  have hB0 : Below w.heap.size w (w.alloc (.cells #[.int .i64 wd, .pointer A] 53)) := (Below.refl _ _).alloc (Nat.le_refl _) _
  have h0 := (h.up hB0).pos
  unfold posT at h0
  unfold treeV
  go_enter Try.func56, Try.ntmps56
  go_wp2_with fail
  go_ret
  exact ⟨_, rfl, rfl, hB0⟩
theorem without_any (wd : Int) (k : Key) (A : Option Addr) (hk : k.length ≤ 1000000000) : ∀ (t : Tr) (q : Nat) (w : World), lowT t → TrR wd w w.heap.size t q →
    Calls Try.prog 56 #[treeV wd A, .pointer (some ⟨q, 0, none⟩), .string (bs k)] w fun e w' => ∃ a', e = .returned (.pointer a') ∧ OTrR wd w' w'.heap.size (t.del k) a' ∧ Below w.heap.size w w'
  | .leaf a x, q, w, _, h => withoutLeaf_any wd k a x q A w h
  | .fork p0 l r, q, w, hlow, h => by
    rw [del_fork]
    exact withoutStep_any wd k p0 l r (l.del k) (r.del k) q A w hk hlow.1 h
        (fun _ a W ha => without_any wd k A hk l a W hlow.2.1 ha) (fun _ a W ha => without_any wd k A hk r a W hlow.2.2 ha)
end Go.Proofs.Ytjjkdmngmopjbaa
