/- Tries in memory, by package trie: the way down, and what is found. -/
import Derived.Test.YtkcnoljjilhpoaaProg
import Derived.Test.YtkcnoljjilhpoaaTri4
namespace Go.Proofs.Ytkcnoljjilhpoaa
open Go.RowKit
def ptrNo : Value → Nat
  | .pointer (some p) => p.block
  | _ => 0
set_option maxRecDepth 100000 in
theorem side_any (k : Key) (p a b q : Nat) (w : World) (hk : k.length ≤ 1000000000) (hp : p ≤ 1000000) (h2 : w.cell? ⟨q, 2, none⟩ = some (.int .i64 (p : Int))) (h3 : w.cell? ⟨q, 3, none⟩ = some (.pointer (some ⟨a, 0, none⟩))) (h4 : w.cell? ⟨q, 4, none⟩ = some (.pointer (some ⟨b, 0, none⟩))) :
    Calls Try.prog 102 #[.pointer (some ⟨q, 0, none⟩), .string (bs k)] w fun e w' => e = .returned (.pointer (some ⟨if bitB k p then b else a, 0, none⟩)) ∧ w = w' := by
  have hc := bit_any k p w hk (by omega)
  have hN : bitN k p = if bitB k p then 1 else 0 := rfl
  rw [hN] at hc
  clear hN
  generalize bitB k p = bb at *
  cases bb <;>
    · simp only [Bool.false_eq_true, if_false, if_true] at hc ⊢
      go_enter Try.func102, Try.ntmps102
      go_wp2_with fail
      refine hc.mono ?_
      rintro e w1 ⟨rfl, rfl⟩
      go_wp2_with fail
      go_ret
      exact ⟨rfl, rfl⟩
/-- a leaf in memory, wherever it is -/
def LeafR (wd : Int) (w : World) (B : Nat) (x : Ent) (q : Nat) : Prop := TrR wd w B (.leaf x.1 x.2) q
set_option maxRecDepth 100000 in
theorem find_any (wd : Int) (k : Key) (t : Tr) (q : Nat) (w : World) (hk : k.length ≤ 1000000000) (hlow : lowT t) (h : TrR wd w w.heap.size t q) :
    Calls Try.prog 85 #[treeV wd (some ⟨q, 0, none⟩), .string (bs k)] w fun e w' => ∃ q', e = .returned (.pointer (some ⟨q', 0, none⟩)) ∧ LeafR wd w' w.heap.size (t.find k) q' ∧ Below w.heap.size w w' := by
  have h0 : TrR wd (w.alloc (.cells #[.int .i64 wd, .pointer (some ⟨q, 0, none⟩)] 37)) w.heap.size t q := h.below ((Below.refl _ _).alloc (Nat.le_refl _) _)
  have hB0 : Below w.heap.size w (w.alloc (.cells #[.int .i64 wd, .pointer (some ⟨q, 0, none⟩)] 37)) := (Below.refl _ _).alloc (Nat.le_refl _) _
  have hR : Hid (∃ t' : Tr, TrR wd (w.alloc (.cells #[.int .i64 wd, .pointer (some ⟨q, 0, none⟩)] 37)) w.heap.size t' q ∧ lowT t' ∧ t'.find k = t.find k) := ⟨t, h0, hlow, rfl⟩
  clear h0 h hlow
  unfold treeV
  go_enter Try.func85, Try.ntmps85
  go_wp2_with fail
  generalize w.alloc (.cells #[.int .i64 wd, .pointer (some ⟨q, 0, none⟩)] 37) = w0 at *
  go_loop [5] (fun x => ∃ q' : Nat, x = .pointer (some ⟨q', 0, none⟩) ∧ Hid (∃ t' : Tr, TrR wd w0 w.heap.size t' q' ∧ lowT t' ∧ t'.find k = t.find k)) (fun x => ptrNo x)
  case atStart => exact ⟨q, rfl, hR⟩
  case round =>
    clear hR
    obtain ⟨q', rfl, t', ht, hlow, hf⟩ := hrel
    have hpos := ht.pos
    cases t' with
    | leaf a v =>
      have hLf : Hid (LeafR wd w0 w.heap.size (t.find k) q') := by show LeafR _ _ _ _ _; rw [← hf]; exact ht
      clear hf ht
      unfold posT at hpos
      go_wp2_with fail
      go_ret
      exact ⟨_, rfl, hLf.out, hB0⟩
    | fork p l r =>
      obtain ⟨hq, a, b, hblk, hl, hr⟩ := ht
      obtain ⟨hp, hll, hlr⟩ := hlow
      have h3 := (hblk.cell 3).trans (show _ = some (Value.pointer (some ⟨a, 0, none⟩)) from rfl)
      have h4 := (hblk.cell 4).trans (show _ = some (Value.pointer (some ⟨b, 0, none⟩)) from rfl)
      unfold posT at hpos
      have hge : decide ((0 : Int) ≤ (p : Int)) = true := decide_eq_true (by omega)
      have hal := hl.lt
      have hbl := hr.lt
      have hnext : Hid (∃ t' : Tr, TrR wd w0 w.heap.size t' (if bitB k p then b else a) ∧ lowT t' ∧ t'.find k = t.find k) := by
        show ∃ _, _
        rw [← hf, show (Tr.fork p l r).find k = if bitB k p then r.find k else l.find k from rfl]
        split
        · exact ⟨r, hr.more (by omega), hlr, rfl⟩
        · exact ⟨l, hl.more (by omega), hll, rfl⟩
      have hlt : (if bitB k p then b else a) < q' := by split <;> omega
      have hc := side_any k p a b q' w0 hk hp hpos h3 h4
      generalize (if bitB k p then b else a) = c at *
      clear hl hr hll hlr hf hblk
      go_wp2_with fail
      refine hc.mono ?_
      rintro e w1 ⟨rfl, rfl⟩
      go_wp2_with fail
      go_round
      case rel => exact ⟨c, rfl, hnext⟩
      case measure => simpa [ptrNo] using hlt
set_option maxRecDepth 100000 in
theorem findNo_any (wd : Int) (k : Key) (w : World) :
    Calls Try.prog 85 #[treeV wd none, .string (bs k)] w fun e w' => e = .returned (.pointer none) ∧ Below w.heap.size w w' := by
  unfold treeV
  go_enter Try.func85, Try.ntmps85
  go_wp2_with fail
  go_loop [5] (fun x => x = .pointer none) (fun x => ptrNo x)
  case atStart => rfl
  case round =>
    subst hrel
    go_wp2_with fail
    go_ret
    exact ⟨rfl, (Below.refl _ _).alloc (Nat.le_refl _) _⟩
def getO (k : Key) (t : Option Tr) : Key := getL k (Tr.oitems t)
set_option maxRecDepth 100000 in
theorem get_any (wd : Int) (k : Key) (t : Option Tr) (a : Option Addr) (w : World) (hk : k.length ≤ 1000000000) (hok : Tr.ook t) (hlow : ∀ u, t = some u → lowT u) (h : OTrR wd w w.heap.size t a) :
    Calls Try.prog 31 #[treeV wd a, .string (bs k)] w fun e w' => e = .returned (.string (bs (getL k (Tr.oitems t)))) ∧ Below w.heap.size w w' := by
  cases t with
  | none =>
    obtain rfl : a = none := h
    have hf := fun W => findNo_any wd k W
    unfold treeV at hf ⊢
    have hg : getL k (Tr.oitems none) = [] := rfl
    rw [hg]
    clear hg hok hlow
    go_enter Try.func31, Try.ntmps31
    go_wp2_with fail
    refine (hf _).mono ?_
    rintro e w1 ⟨rfl, hb1⟩
    go_wp2_with fail
    go_ret
    exact ⟨rfl, ((Below.refl _ _).alloc (Nat.le_refl _) _).trans (hb1.mono (by simp))⟩
  | some t =>
    obtain ⟨q, rfl, h⟩ := h
    have hlow := hlow t rfl
    have hB0 : Below w.heap.size w (w.alloc (.cells #[.int .i64 wd, .pointer (some ⟨q, 0, none⟩)] 37)) := (Below.refl _ _).alloc (Nat.le_refl _) _
    have hf := find_any wd k t q _ hk hlow (h.up hB0)
    have HY := Lib.hid (fun e => Tr.get_yes (k := k) (t := t) hok e)
    have HN := Lib.hid (fun e => Tr.get_no (k := k) (t := t) hok e)
    rw [show Tr.oitems (some t) = t.items from rfl]
    generalize getL k t.items = G at *
    generalize t.find k = x at *
    clear h hlow hok
    unfold treeV at hf ⊢
    go_enter Try.func31, Try.ntmps31
    go_wp2_with fail
    refine hf.mono ?_
    rintro e w1 ⟨q', rfl, ⟨hq', hblk⟩, hb1⟩
    obtain ⟨xk, xv⟩ := x
    have h0 := (hblk.cell 0).trans (show _ = some (Value.string (bs xk)) from rfl)
    have h1 := (hblk.cell 1).trans (show _ = some (Value.string (bs xv)) from rfl)
    by_cases he : xk = k
    · subst he
      obtain rfl := HY.out rfl
      clear HN HY hblk
      go_wp2_with fail
      go_ret
      exact ⟨rfl, hB0.trans (hb1.mono hB0.size)⟩
    · obtain rfl := HN.out he
      have hd : (xk == k) = false := beq_eq_false_iff_ne.2 he
      clear HN HY hblk
      go_wp2_with fail
      go_ret
      exact ⟨rfl, hB0.trans (hb1.mono hB0.size)⟩
end Go.Proofs.Ytkcnoljjilhpoaa
