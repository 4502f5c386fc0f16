/- The plain law of paths: going up from a leaf by pathF's sides gives the digest above the list. -/
import Derived.Test.YtjmkcndjjfokiaaProg
import Derived.Test.YtjmkcndjjfokiaaDig5
namespace Go.Proofs.Ytjmkcndjjfokiaa
open Go.RowKit
/-- the ways down: is the way to the right? -/
def riteF : Nat → Nat → Nat → List Bool
  | 0, _, _ => []
  | f + 1, n, a => if n < 2 then [] else if a < halfS n then false :: riteF f (halfS n) a else true :: riteF f (n - halfS n) (a - halfS n)
/-- the digest on the way up -/
def climb (w d : Int) : List Bool → List Int → Int
  | r :: rs, s :: ss => if r then ofS w 1 [be s 8, be (climb w d rs ss) 8] else ofS w 1 [be (climb w d rs ss) 8, be s 8]
  | _, _ => d
theorem riteF_length (w : Int) : ∀ (f : Nat) (l : List (List UInt8)) (a : Nat), (riteF f l.length a).length = (pathF f w l a).length
  | 0, _, _ => rfl
  | f + 1, l, a => by
    rw [riteF, pathF]
    by_cases h : l.length < 2
    · rw [if_pos h, if_pos h]; rfl
    · rw [if_neg h, if_neg h]
      have hb := halfS_bd l.length (by omega)
      have i1 := riteF_length w f (l.take (halfS l.length)) a
      have i2 := riteF_length w f (l.drop (halfS l.length)) (a - halfS l.length)
      rw [List.length_take, Nat.min_eq_left (by omega)] at i1
      rw [List.length_drop] at i2
      by_cases h2 : a < halfS l.length
      · rw [if_pos h2, if_pos h2]; simp [i1]
      · rw [if_neg h2, if_neg h2]; simp [i2]
theorem climb_path (w : Int) : ∀ (f : Nat) (l : List (List UInt8)) (a : Nat) (h : a < l.length), l.length ≤ f → climb w (ofS w 0 [l[a]]) (riteF f l.length a) (pathF f w l a) = aboveS w l
  | 0, l, a, h, hf => by omega
  | f + 1, l, a, h, hf => by
    by_cases h2 : l.length < 2
    · rw [riteF, pathF, if_pos h2, if_pos h2]
      match l, h, h2 with
      | [s], h, _ =>
        have : a = 0 := by simp at h; omega
        subst this
        rfl
    · have hb := halfS_bd l.length (by omega)
      rw [riteF, pathF, if_neg h2, if_neg h2, aboveS_more w l (by omega)]
      by_cases h3 : a < halfS l.length
      · have i1 := climb_path w f (l.take (halfS l.length)) a (by rw [List.length_take]; omega) (by rw [List.length_take]; omega)
        simp only [List.getElem_take, List.length_take, Nat.min_eq_left (show halfS l.length ≤ l.length by omega)] at i1
        rw [if_pos h3, if_pos h3, climb, i1]
        simp
      · have i2 := climb_path w f (l.drop (halfS l.length)) (a - halfS l.length) (by rw [List.length_drop]; omega) (by rw [List.length_drop]; omega)
        simp only [List.getElem_drop, List.length_drop, show halfS l.length + (a - halfS l.length) = a by omega] at i2
        rw [if_neg h3, if_neg h3, climb, i2]
        simp
end Go.Proofs.Ytjmkcndjjfokiaa
