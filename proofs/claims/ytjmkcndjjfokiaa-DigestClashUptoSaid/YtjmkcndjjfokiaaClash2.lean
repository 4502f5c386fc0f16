/- The plain law of clashes, of paths: two unlike leaves that hold at one place under one root give two unlike images of one digest. -/
import Derived.Test.YtjmkcndjjfokiaaProg
import Derived.Test.YtjmkcndjjfokiaaClash1
namespace Go.Proofs.Ytjmkcndjjfokiaa
open Go.RowKit
theorem imgsS_rev (w : Int) (s : List UInt8) (n : Int) (ways : List Bool) (ds : List Int) : (imgsS w s n ways ds).reverse = (2, [be n 5, be (climb w (ofS w 0 [s]) ways ds) 8]) :: downS w s ways ds := by
  unfold imgsS
  rw [List.reverse_append, downS_rev]
  rfl
theorem okP_true {n a : Int} {ds : List Int} (h : okP n a ds = true) : 0 ≤ a ∧ a < n ∧ n ≤ 1099511627775 ∧ (wayS n a).length = ds.length := by
  unfold okP at h
  simp only [Bool.and_eq_true, decide_eq_true_eq] at h
  exact ⟨h.1.1.1, h.1.1.2, h.1.2, h.2⟩
theorem clash_ex (w R : Int) (s t : List UInt8) (n n' a : Int) (ds ds' : List Int) (hst : s ≠ t) (h1 : holdsS w R s n a ds = true) (h2 : holdsS w R t n' a ds' = true) :
    ∃ x y, unl (imgsS w s n (wayS n a) ds).reverse (imgsS w t n' (wayS n' a) ds').reverse = some (x, y) ∧ ofS w x.1 x.2 = ofS w y.1 y.2 ∧ sameI x y = false := by
  unfold holdsS at h1 h2
  simp only [Bool.and_eq_true, beq_iff_eq] at h1 h2
  obtain ⟨o1, e1⟩ := h1
  obtain ⟨o2, e2⟩ := h2
  have p1 := okP_true o1
  have p2 := okP_true o2
  unfold peakS at e1 e2
  rw [imgsS_rev, imgsS_rev]
  have b1 := climb_bd w (ofS w 0 [s]) (by have := ofS_bd w 0 [s]; omega) (wayS n a) ds
  have b2 := climb_bd w (ofS w 0 [t]) (by have := ofS_bd w 0 [t]; omega) (wayS n' a) ds'
  cases hs : sameI (2, [be n 5, be (climb w (ofS w 0 [s]) (wayS n a) ds) 8]) (2, [be n' 5, be (climb w (ofS w 0 [t]) (wayS n' a) ds') 8])
  · refine ⟨(2, [be n 5, be (climb w (ofS w 0 [s]) (wayS n a) ds) 8]), (2, [be n' 5, be (climb w (ofS w 0 [t]) (wayS n' a) ds') 8]), ?_, e1.trans e2.symm, hs⟩
    rw [unl, hs]
    rfl
  · have hp := congrArg Prod.snd (sameI_eq hs)
    simp only [List.cons.injEq, and_true] at hp
    have h5 : (256 : Int) ^ 5 = 1099511627776 := by decide
    have u1 : 0 ≤ n ∧ n < 256 ^ 5 := by rw [h5]; omega
    have u2 : 0 ≤ n' ∧ n' < 256 ^ 5 := by rw [h5]; omega
    have hn : n = n' := be_inj (k := 5) u1 u2 hp.1
    have hc := be8_inj b1 b2 hp.2
    subst hn
    obtain ⟨x, y, i1, i2, i3⟩ := unl_down w s t hst (wayS n a) ds ds' p1.2.2.2 p2.2.2.2 hc
    refine ⟨x, y, ?_, i2, i3⟩
    rw [unl, hs]
    exact i1
end Go.Proofs.Ytjmkcndjjfokiaa
