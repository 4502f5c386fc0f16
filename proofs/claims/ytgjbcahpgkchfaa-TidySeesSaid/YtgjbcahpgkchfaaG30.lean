/- Of the texts Wr0. -/
import Derived.Test.YtgjbcahpgkchfaaProg
import Derived.Test.YtgjbcahpgkchfaaG07
import Derived.Lib.AppendStr
set_option linter.unusedSimpArgs false
set_option linter.unusedVariables false
namespace Go.Proofs.Ytgjbcahpgkchfaa
open Go.RowKit
structure Out where
 b : List UInt8
 far : Bool
 odd : Bool
structure Turned (w w' : World) (g : Nat) : Prop where
 low : Below g w w'
 block : ∀ k, k < w.heap.size → k ≠ g → (∀ cs f, w.heap[k]? ≠ some (.cells cs 5 f)) → w'.heap[k]? = w.heap[k]?
theorem Turned.refl (w : World) (g : Nat) : Turned w w g := ⟨Below.refl _ _, fun _ _ _ _ => rfl⟩
theorem Turned.trans {a b c : World} {g : Nat} (h : Turned a b g) (k : Turned b c g) : Turned a c g :=
 ⟨h.low.trans k.low, fun i hi hg hn => by
  have e := h.block i hi hg hn; exact (k.block i (Nat.lt_of_lt_of_le hi h.low.size) hg (fun cs f => by rw [e]; exact hn cs f)).trans e⟩
theorem Turned.size {w w' : World} {g : Nat} (h : Turned w w' g) : w.heap.size ≤ w'.heap.size := h.low.size
theorem Turned.drew {a w : World} {g : Nat} (h : Turned a w g) : Turned a w.drew g := ⟨h.low.drew, h.block⟩
theorem Turned.drewN {a w : World} {g : Nat} (h : Turned a w g) (n : Nat) : Turned a (w.drewN n) g := ⟨h.low.drewN n, h.block⟩
theorem Turned.alloc {a w : World} {g : Nat} (h : Turned a w g) (hg : g ≤ w.heap.size) (o : Obj) : Turned a (w.alloc o) g :=
 h.trans ⟨(Below.refl _ _).alloc hg o, fun k hk _ _ => Below.heap_alloc w o k hk⟩
theorem Turned.setCell {a w : World} {g : Nat} (h : Turned a w g) (i : Nat) (u : Value) : Turned a (w.setCell ⟨g, i, none⟩ u) g :=
 h.trans ⟨(Below.refl g w).setCell (p := ⟨g, i, none⟩) (Nat.le_refl g) u, fun k _ hkg _ => Below.heap_setCell w _ u k hkg⟩
theorem Turned.grown {a w w' : World} {g : Nat} (h : Turned a w g) {v : Value} {base n : Nat} {xs : List Value} (hown : w.ownsRow base 5 1 v n xs) (hg : w.grownBy w' v.ownBlock) (hb : g < base) (hgs : g < w.heap.size) : Turned a w' g := by
 refine h.trans ⟨(Below.refl g w).grown hg (by omega) (fun k hk => by have := (hown.lt k hk).1; omega), fun k hk hkg hn => hg.block k hk (fun e => ?_)⟩
 rcases hown.2 with ⟨rfl, _⟩ | ⟨g', cap, cur, rfl, _, hgg, _⟩
 ·simp [Value.ownBlock] at e
 ·simp [Value.ownBlock] at e; subst e; exact hn _ _ hgg
theorem Turned.blk {w w' : World} {g k : Nat} {t : TypeId} {cs : Array Value} (h : Turned w w' g) (hb : Blk w k t cs) (hk : k ≠ g) (ht : t ≠ 5) : Blk w' k t cs :=
 (h.block k hb.lt hk (fun cs' f e => by
  unfold Blk at hb; rw [hb] at e; injection e with e
  injection e with _ e2
  exact ht e2)).trans hb
def blenF : Nat → Int → Nat
 | 0, _ => 0
 | f + 1, m => if 0 < m then blenF f (m / 256) + 1 else 0
def farN (n : Int) : Bool := decide (n < 0 ∨ 1099511627775 < n)
def numV (n : Int) : Int := if farN n then 0 else n
def numB (n : Int) : List UInt8 := UInt8.ofNat (blenF 5 n) :: be n (blenF 5 n)
def Out.num (S : Out) (n : Int) : Out := ⟨S.b ++ numB (numV n), S.far || farN n, S.odd⟩
def Out.dig (S : Out) (d : Int) : Out := ⟨S.b ++ be d 8, S.far, S.odd⟩
def Out.lim (S : Out) (n most : Int) : Out := ⟨S.b, S.far || decide (most < n), S.odd⟩
def Out.need (S : Out) (ok : Bool) : Out := ⟨S.b, S.far, S.odd || !ok⟩
def Out.empty : Out := ⟨[], false, false⟩
end Go.Proofs.Ytgjbcahpgkchfaa
