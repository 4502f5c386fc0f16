/- Digests of lists: the root and the sum of lengths. -/
import Derived.Test.YtjmkcndjjfokiaaProg
import Derived.Test.YtjmkcndjjfokiaaDig2
namespace Go.Proofs.Ytjmkcndjjfokiaa
open Go.RowKit
theorem short2r (n a : Int) : Short [be n 5, be a 8] := short2 (be5_short n) (be8_short a)
set_option maxRecDepth 100000 in
theorem root_any (wd : Int) (l : List (List UInt8)) (A : Option Addr) (c B : Nat) (w : World) (h : Strs w B A l) (hB : B ≤ w.heap.size) (hl : l.length ≤ 65536) (hsh : Short l) (hc : l.length ≤ c) (hcm : c ≤ maxLen) :
    Calls Try.prog 21 #[.int .i64 wd, .slice A l.length c] w fun e w' => e = .returned (.int .u64 (rootS wd l)) ∧ Below w.heap.size w w' := by
  go_enter Try.func21, Try.ntmps21
  go_wp2_with fail
  refine (above_any wd l A c B _ h hB hl hsh hc hcm).mono ?_
  rintro e w1 ⟨rfl, hb1⟩
  have hx := aboveS_bd wd l
  have HR : Hid (rootS wd l = ofS wd 2 [be (l.length : Int) 5, be (aboveS wd l) 8]) := rfl
  generalize aboveS wd l = x at *
  go_wp2_with fail
  refine (dlist_any (l.length : Int) x _ hx.1 hx.2).mono ?_
  rintro e w2 ⟨v, rfl, ⟨A', c', rfl, hs', hf'⟩, hb2⟩
  have g2 := hb1.trans (hb2.mono hb1.size)
  go_wp2_with fail
  refine (ofImage_any wd 2 [be (l.length : Int) 5, be x 8] _ _ _ _ hs' (Nat.le_refl _) (by simp [maxLen]) (short2r _ x)).mono ?_
  rintro e w3 ⟨rfl, hb3⟩
  go_wp2
  go_ret
  exact ⟨ret_u64 HR.out.symm, g2.trans (hb3.mono g2.size)⟩
/-- all lengths together, as far as the law reads -/
def sumOf (l : List (List UInt8)) : Nat := l.length + (l.map List.length).sum
def sumGo : List (List UInt8) → Nat → Nat
  | [], n => n
  | s :: r, n => if n ≤ 65536 then sumGo r (n + s.length) else n
theorem sumGo_small : ∀ (l : List (List UInt8)) (n : Nat), sumGo l n ≤ 65536 → n ≤ 65536 ∧ ∀ s ∈ l, s.length ≤ 65536
  | [], n, h => ⟨h, fun s hs => by cases hs⟩
  | s :: r, n, h => by
    unfold sumGo at h
    by_cases hn : n ≤ 65536
    · rw [if_pos hn] at h
      have h2 := sumGo_small r _ h
      exact ⟨hn, fun t ht => by rcases List.mem_cons.1 ht with rfl | ht; · omega
                                exact h2.2 t ht⟩
    · rw [if_neg hn] at h
      exact absurd h hn
end Go.Proofs.Ytjmkcndjjfokiaa
