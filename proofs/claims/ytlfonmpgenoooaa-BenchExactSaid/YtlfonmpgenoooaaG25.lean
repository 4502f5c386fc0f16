/- Of the texts Wr0. -/
import Derived.Test.YtlfonmpgenoooaaProg
import Derived.Test.YtlfonmpgenoooaaG05
import Derived.Lib.AppendStr
set_option linter.unusedSimpArgs false
set_option linter.unusedVariables false
namespace Go.Proofs.Ytlfonmpgenoooaa
open Go.RowKit
structure Out where
 b : List UInt8
 far : Bool
 odd : Bool
def u8s (l : List UInt8) : List Value := l.map fun c => .int .u8 c.toNat
theorem u8s_append (l m : List UInt8) : u8s (l ++ m) = u8s l ++ u8s m := by simp [u8s]
structure Turned (w w' : World) (g : Nat) : Prop where
 low : Below g w w'
 block : ∀ k, k < w.heap.size → k ≠ g → (∀ cs f, w.heap[k]? ≠ some (.cells cs 5 f)) → w'.heap[k]? = w.heap[k]?
theorem Turned.refl (w : World) (g : Nat) : Turned w w g := ⟨Below.refl _ _, fun _ _ _ _ => rfl⟩
theorem Turned.trans {a b c : World} {g : Nat} (h : Turned a b g) (k : Turned b c g) : Turned a c g :=
 ⟨h.low.trans k.low, fun i hi hg hn => by
  have e := h.block i hi hg hn; exact (k.block i (Nat.lt_of_lt_of_le hi h.low.size) hg (fun cs f => by rw [e]; exact hn cs f)).trans e⟩
theorem Turned.size {w w' : World} {g : Nat} (h : Turned w w' g) : w.heap.size ≤ w'.heap.size := h.low.size
theorem Turned.drew {a w : World} {g : Nat} (h : Turned a w g) : Turned a w.drew g := ⟨h.low.drew, h.block⟩
theorem Turned.drewN {a w : World} {g : Nat} (h : Turned a w g) (n : Nat) : Turned a (w.drewN n) g := ⟨h.low.drewN n, h.block⟩
theorem Turned.alloc {a w : World} {g : Nat} (h : Turned a w g) (hg : g ≤ w.heap.size) (o : Obj) : Turned a (w.alloc o) g :=
 h.trans ⟨(Below.refl _ _).alloc hg o, fun k hk _ _ => Below.heap_alloc w o k hk⟩
theorem Turned.setCell {a w : World} {g : Nat} (h : Turned a w g) (i : Nat) (u : Value) : Turned a (w.setCell ⟨g, i, none⟩ u) g :=
 h.trans ⟨(Below.refl g w).setCell (p := ⟨g, i, none⟩) (Nat.le_refl g) u, fun k _ hkg _ => Below.heap_setCell w _ u k hkg⟩
theorem Turned.grown {a w w' : World} {g : Nat} (h : Turned a w g) {v : Value} {base n : Nat} {xs : List Value} (hown : w.ownsRow base 5 1 v n xs) (hg : w.grownBy w' v.ownBlock) (hb : g < base) (hgs : g < w.heap.size) : Turned a w' g := by
 refine h.trans ⟨(Below.refl g w).grown hg (by omega) (fun k hk => by have := (hown.lt k hk).1; omega), fun k hk hkg hn => hg.block k hk (fun e => ?_)⟩
 rcases hown.2 with ⟨rfl, _⟩ | ⟨g', cap, cur, rfl, _, hgg, _⟩
 ·simp [Value.ownBlock] at e
 ·simp [Value.ownBlock] at e; subst e; exact hn _ _ hgg
theorem Turned.blk {w w' : World} {g k : Nat} {t : TypeId} {cs : Array Value} (h : Turned w w' g) (hb : Blk w k t cs) (hk : k ≠ g) (ht : t ≠ 5) : Blk w' k t cs :=
 (h.block k hb.lt hk (fun cs' f e => by
  unfold Blk at hb; rw [hb] at e; injection e with e
  injection e with _ e2
  exact ht e2)).trans hb
theorem Turned.rd {w w' : World} {g B size n : Nat} {A : Option Addr} {xs : List Value} (h : Turned w w' g) (hr : Rd w B size A n xs) (hB : B ≤ g) : Rd w' B size A n xs := hr.below (h.low.mono hB)
def Wrt (w : World) (g : Nat) (S : Out) : Prop := ∃ v, Blk w g 98 #[v, .bool S.far, .bool S.odd] ∧ w.ownsRow (g + 1) 5 1 v S.b.length (u8s S.b)
theorem Wrt.lt {w : World} {g : Nat} {S : Out} (h : Wrt w g S) : g < w.heap.size := h.choose_spec.1.lt
theorem Wrt.drew {w : World} {g : Nat} {S : Out} (h : Wrt w g S) : Wrt w.drew g S := h
theorem Wrt.drewN {w : World} {g : Nat} {S : Out} (h : Wrt w g S) (n : Nat) : Wrt (w.drewN n) g S := h
theorem Wrt.alloc {w : World} {g : Nat} {S : Out} (h : Wrt w g S) (o : Obj) : Wrt (w.alloc o) g S := by
 obtain ⟨v, hb, ho⟩ := h; exact ⟨v, hb.alloc o, ho.alloc o⟩
def Ref (w : World) (g : Nat) (S : Out) : Prop := ∃ l o, Blk w g 79 #[.string (bs l), .bool S.far, .bool o] ∧ l.length ≤ S.b.length ∧ (S.far = false → l = S.b ∧ o = S.odd)
theorem Ref.lt {w : World} {g : Nat} {S : Out} (h : Ref w g S) : g < w.heap.size := by obtain ⟨l, o, h, _⟩ := h; exact h.lt
theorem Ref.drew {w : World} {g : Nat} {S : Out} (h : Ref w g S) : Ref w.drew g S := h
theorem Ref.drewN {w : World} {g : Nat} {S : Out} (h : Ref w g S) (n : Nat) : Ref (w.drewN n) g S := h
theorem Ref.alloc {w : World} {g : Nat} {S : Out} (h : Ref w g S) (o : Obj) : Ref (w.alloc o) g S := by
 obtain ⟨l, b, hb, hn, ho⟩ := h; exact ⟨l, b, hb.alloc o, hn, ho⟩
def blenF : Nat → Int → Nat
 | 0, _ => 0
 | f + 1, m => if 0 < m then blenF f (m / 256) + 1 else 0
def farN (n : Int) : Bool := decide (n < 0 ∨ 1099511627775 < n)
def numV (n : Int) : Int := if farN n then 0 else n
def numB (n : Int) : List UInt8 := UInt8.ofNat (blenF 5 n) :: be n (blenF 5 n)
def Out.num (S : Out) (n : Int) : Out := ⟨S.b ++ numB (numV n), S.far || farN n, S.odd⟩
def Out.nums (S : Out) (l : List Int) : Out := l.foldl Out.num S
def Out.dig (S : Out) (d : Int) : Out := ⟨S.b ++ be d 8, S.far, S.odd⟩
def Out.flag (S : Out) (f : Bool) : Out := ⟨S.b ++ [if f then 1 else 0], S.far, S.odd⟩
def Out.lim (S : Out) (n most : Int) : Out := ⟨S.b, S.far || decide (most < n), S.odd⟩
def Out.need (S : Out) (ok : Bool) : Out := ⟨S.b, S.far, S.odd || !ok⟩
def Out.raw (S : Out) (s : List UInt8) : Out := ⟨S.b ++ s, S.far, S.odd⟩
def Out.text (S : Out) (s : List UInt8) (most : Int) : Out := ((S.lim s.length most).num s.length).raw s
def Out.list {α : Type} (S : Out) (l : List α) (most : Int) (f : Out → α → Out) : Out := l.foldl f ((S.lim l.length most).num l.length)
def Out.empty : Out := ⟨[], false, false⟩
theorem blenF_le (f : Nat) (m : Int) : blenF f m ≤ f := by
 induction f generalizing m with
 | zero => exact Nat.le_refl _
 | succ f ih => unfold blenF; split <;> have := ih (m / 256) <;> omega
theorem numB_len (n : Int) : (numB n).length ≤ 6 := by
 have := blenF_le 5 n; simp [numB, be_len]; omega
theorem numV_bd (n : Int) : 0 ≤ numV n ∧ numV n ≤ 1099511627775 := by
 unfold numV farN
 by_cases h : n < 0 ∨ 1099511627775 < n
 ·simp [h]
 ·simp [h]; omega
theorem Out.num_len (S : Out) (n : Int) : (S.num n).b.length ≤ S.b.length + 6 := by
 have := numB_len (numV n); simp [Out.num]; omega
theorem Out.nums_cons (S : Out) (n : Int) (l : List Int) : S.nums (n :: l) = (S.num n).nums l := rfl
theorem Out.nums_len (S : Out) (l : List Int) : (S.nums l).b.length ≤ S.b.length + 6 * l.length := by
 induction l generalizing S with
 | nil => simp [Out.nums]
 | cons n l ih => rw [Out.nums_cons]; have := ih (S.num n); have := S.num_len n; simp; omega
theorem Out.nums_take (S : Out) (l : List Int) (k : Nat) (hk : k < l.length) : S.nums (l.take (k + 1)) = (S.nums (l.take k)).num l[k] := by
 unfold Out.nums; rw [List.take_succ_eq_append_getElem hk, List.foldl_append]; rfl
theorem fold_take {α β : Type} (f : β → α → β) (S : β) (l : List α) (k : Nat) (hk : k < l.length) : (l.take (k + 1)).foldl f S = f ((l.take k).foldl f S) l[k] := by
 rw [List.take_succ_eq_append_getElem hk, List.foldl_append]; rfl
end Go.Proofs.Ytlfonmpgenoooaa
