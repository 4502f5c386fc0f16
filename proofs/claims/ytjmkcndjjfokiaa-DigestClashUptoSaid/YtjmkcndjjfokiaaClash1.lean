/- The plain law of clashes: two lists of images of one way and one last digest, of unlike leaves, have two unlike images of one digest. -/
import Derived.Test.YtjmkcndjjfokiaaProg
import Derived.Test.YtjmkcndjjfokiaaClash0
namespace Go.Proofs.Ytjmkcndjjfokiaa
open Go.RowKit
theorem byte_inj {a b : Int} (ha : 0 ≤ a ∧ a < 256) (hb : 0 ≤ b ∧ b < 256) (h : UInt8.ofNat a.toNat = UInt8.ofNat b.toNat) : a = b := by
  have h1 := congrArg UInt8.toNat h
  simp only [UInt8.toNat_ofNat'] at h1
  have e1 : a.toNat % 2 ^ 8 = a.toNat := Nat.mod_eq_of_lt (by omega)
  have e2 : b.toNat % 2 ^ 8 = b.toNat := Nat.mod_eq_of_lt (by omega)
  rw [e1, e2] at h1
  omega
theorem mod_two (x m : Int) (hm : 0 < m) : x % (m * 256) = (x / m % 256) * m + x % m := by
  have a1 := Int.emod_add_mul_ediv x m
  have a2 := Int.emod_add_mul_ediv (x / m) 256
  have r1 := Int.emod_nonneg x (show m ≠ 0 by omega)
  have r2 := Int.emod_lt_of_pos x hm
  have q1 := Int.emod_nonneg (x / m) (show (256 : Int) ≠ 0 by omega)
  have q2 := Int.emod_lt_of_pos (x / m) (show (0 : Int) < 256 by omega)
  have h4 : x = ((x / m % 256) * m + x % m) + (m * 256) * (x / m / 256) := by grind
  have l1 : (x / m % 256) * m ≤ 255 * m := Int.mul_le_mul_of_nonneg_right (by omega) (by omega)
  have l2 : 0 ≤ (x / m % 256) * m := Int.mul_nonneg q1 (by omega)
  conv => lhs; rw [h4]
  rw [Int.add_mul_emod_self_left]
  exact Int.emod_eq_of_lt (by omega) (by omega)
/-- what k bytes of a number say, the number holds modulo 256 to the k -/
theorem be_mod : ∀ (k : Nat) (a b : Int), be a k = be b k → a % 256 ^ k = b % 256 ^ k
  | 0, a, b, _ => by simp [Int.emod_one]
  | k + 1, a, b, h => by
    simp only [be, List.cons.injEq] at h
    obtain ⟨h1, h2⟩ := h
    have e := byte_inj ⟨Int.emod_nonneg _ (by omega), Int.emod_lt_of_pos _ (by omega)⟩ ⟨Int.emod_nonneg _ (by omega), Int.emod_lt_of_pos _ (by omega)⟩ h1
    have i := be_mod k a b h2
    have hp : (0 : Int) < 256 ^ k := Int.pow_pos (by omega)
    have key : ∀ x : Int, x % 256 ^ (k + 1) = (x / 256 ^ k % 256) * 256 ^ k + x % 256 ^ k := by
      intro x
      rw [Int.pow_succ 256 k]
      exact mod_two x _ hp
    rw [key, key, e, i]
theorem be_inj {a b : Int} {k : Nat} (ha : 0 ≤ a ∧ a < 256 ^ k) (hb : 0 ≤ b ∧ b < 256 ^ k) (h : be a k = be b k) : a = b := by
  have := be_mod k a b h
  rw [Int.emod_eq_of_lt ha.1 ha.2, Int.emod_eq_of_lt hb.1 hb.2] at this
  exact this
theorem be8_inj {a b : Int} (ha : 0 ≤ a ∧ a < 18446744073709551616) (hb : 0 ≤ b ∧ b < 18446744073709551616) (h : be a 8 = be b 8) : a = b := be_inj (k := 8) (by simpa using ha) (by simpa using hb) h
/-- the first two that are unlike -/
def unl : List ImgP → List ImgP → Option (ImgP × ImgP)
  | a :: r, b :: s => if sameI a b then unl r s else some (a, b)
  | _, _ => none
/-- the images from the top down to the leaf -/
def downS (w : Int) (s : List UInt8) : List Bool → List Int → List ImgP
  | r :: rs, x :: xs => (1, pairS r x (climb w (ofS w 0 [s]) rs xs)) :: downS w s rs xs
  | _, _ => [(0, [s])]
theorem downS_rev (w : Int) (s : List UInt8) : ∀ (ways : List Bool) (ds : List Int), (((0, [s]) : ImgP) :: clims w (ofS w 0 [s]) ways ds).reverse = downS w s ways ds
  | [], ds => by simp [clims, downS]
  | r :: rs, [] => by simp [clims, downS]
  | r :: rs, x :: xs => by
    have i := downS_rev w s rs xs
    simp only [clims, downS, ← List.cons_append, List.reverse_append, List.reverse_cons, List.reverse_nil, List.nil_append, List.singleton_append] at i ⊢
    rw [← i]
    rfl
theorem sameI_eq {a b : ImgP} (h : sameI a b = true) : a = b := by
  obtain ⟨a1, a2⟩ := a
  obtain ⟨b1, b2⟩ := b
  simp [sameI] at h
  obtain ⟨rfl, rfl⟩ := h
  rfl
theorem unl_down (w : Int) (s t : List UInt8) (hst : s ≠ t) : ∀ (ways : List Bool) (ds ds' : List Int), ways.length = ds.length → ways.length = ds'.length → climb w (ofS w 0 [s]) ways ds = climb w (ofS w 0 [t]) ways ds' →
    ∃ a b, unl (downS w s ways ds) (downS w t ways ds') = some (a, b) ∧ ofS w a.1 a.2 = ofS w b.1 b.2 ∧ sameI a b = false
  | [], [], [], _, _, h => by
    have hne : sameI (0, [s]) (0, [t]) = false := by simp [sameI, hst]
    refine ⟨(0, [s]), (0, [t]), ?_, h, hne⟩
    rw [downS, downS, unl, hne]
    rfl
    all_goals simp
  | r :: rs, x :: xs, y :: ys, h1, h2, h => by
    have bs1 := climb_bd w (ofS w 0 [s]) (by have := ofS_bd w 0 [s]; omega) rs xs
    have bs2 := climb_bd w (ofS w 0 [t]) (by have := ofS_bd w 0 [t]; omega) rs ys
    have e1 := climb_step w (ofS w 0 [s]) (r :: rs) (x :: xs) 0 (by simp) (by simp)
    have e2 := climb_step w (ofS w 0 [t]) (r :: rs) (y :: ys) 0 (by simp) (by simp)
    simp only [List.drop_zero, List.getElem_cons_zero, Nat.zero_add, List.drop_succ_cons] at e1 e2
    rw [e1, e2] at h
    cases hs : sameI (1, pairS r x (climb w (ofS w 0 [s]) rs xs)) (1, pairS r y (climb w (ofS w 0 [t]) rs ys))
    · refine ⟨(1, pairS r x (climb w (ofS w 0 [s]) rs xs)), (1, pairS r y (climb w (ofS w 0 [t]) rs ys)), ?_, h, hs⟩
      rw [downS, downS, unl, hs]
      rfl
    · have hp := congrArg Prod.snd (sameI_eq hs)
      have hc : climb w (ofS w 0 [s]) rs xs = climb w (ofS w 0 [t]) rs ys := by
        cases r
        · simp only [pairS, Bool.false_eq_true, if_false, List.cons.injEq] at hp
          exact be8_inj bs1 bs2 hp.1
        · simp only [pairS, if_true, List.cons.injEq] at hp
          exact be8_inj bs1 bs2 hp.2.1
      obtain ⟨a, b, i1, i2, i3⟩ := unl_down w s t hst rs xs ys (by simpa using h1) (by simpa using h2) hc
      refine ⟨a, b, ?_, i2, i3⟩
      rw [downS, downS, unl, hs]
      exact i1
  | [], _ :: _, _, h1, _, _ => by simp at h1
  | [], [], _ :: _, _, h2, _ => by simp at h2
  | _ :: _, [], _, h1, _, _ => by simp at h1
  | _ :: _, _ :: _, [], _, h2, _ => by simp at h2
end Go.Proofs.Ytjmkcndjjfokiaa
