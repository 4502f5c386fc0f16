/- What is told of two paths, by the answer: plain facts. -/
import Derived.Test.YtjmkcndjjfokiaaProg
import Derived.Test.YtjmkcndjjfokiaaClash4
namespace Go.Proofs.Ytjmkcndjjfokiaa
open Go.RowKit
theorem unl_mem : ∀ (l m : List ImgP) (x y : ImgP), unl l m = some (x, y) → x ∈ l ∧ y ∈ m
  | [], _, _, _, h => by simp [unl] at h
  | _ :: _, [], _, _, h => by simp [unl] at h
  | a :: r, b :: s, x, y, h => by
    rw [unl] at h
    split at h
    · obtain ⟨h1, h2⟩ := unl_mem r s x y h
      exact ⟨List.mem_cons_of_mem _ h1, List.mem_cons_of_mem _ h2⟩
    · simp only [Option.some.injEq, Prod.mk.injEq] at h
      obtain ⟨rfl, rfl⟩ := h
      exact ⟨by simp, by simp⟩
theorem clims_short (w d : Int) : ∀ (ways : List Bool) (ds : List Int), ∀ x ∈ clims w d ways ds, Short x.2
  | [], _, x, hx => by simp [clims] at hx
  | _ :: _, [], x, hx => by simp [clims] at hx
  | r :: ways, s :: ds, x, hx => by
    simp only [clims, List.mem_append, List.mem_singleton] at hx
    rcases hx with hx | rfl
    · exact clims_short w d ways ds x hx
    · unfold pairS
      split <;> exact be2_short _ _
theorem imgsS_short (wd : Int) (s : List UInt8) (hs : s.length ≤ maxLen) (n : Int) (ways : List Bool) (ds : List Int) : ∀ x ∈ imgsS wd s n ways ds, Short x.2 := fun x hx => by
  simp only [imgsS, List.mem_append, List.mem_cons, List.not_mem_nil, or_false] at hx
  rcases hx with (rfl | hx) | rfl
  · intro p hp
    simp at hp
    rw [hp]
    exact hs
  · exact clims_short _ _ _ _ x hx
  · exact two_short _ _
/-- what is told: none, or two unlike images of one digest -/
def TellS (wd : Int) (o : Option (ImgP × ImgP)) (f : Bool) : Prop := (o = none ∧ f = false) ∨ ∃ x y, o = some (x, y) ∧ f = true ∧ ofS wd x.1 x.2 = ofS wd y.1 y.2 ∧ sameI x y = false ∧ x.2.length ≤ maxLen ∧ y.2.length ≤ maxLen ∧ Short x.2 ∧ Short y.2
theorem clash_tell (wd R : Int) (s t : List UInt8) (hs : s.length ≤ maxLen) (ht : t.length ≤ maxLen) (n a n' a' : Int) (ds ds' : List Int) (h : holdsS wd R s n a ds = true) :
    TellS wd (clashS wd R s n a ds t n' a' ds') (holdsS wd R t n' a' ds' && decide (t ≠ s) && decide (a' = a)) := by
  unfold TellS clashS
  by_cases hc : s = t ∨ a ≠ a' ∨ holdsS wd R s n a ds = false ∨ holdsS wd R t n' a' ds' = false
  · rw [if_pos hc]
    refine .inl ⟨rfl, ?_⟩
    rcases hc with rfl | hc | hc | hc
    · simp
    · have : ¬ a' = a := fun e => hc e.symm
      simp [this]
    · rw [h] at hc; cases hc
    · simp [hc]
  · rw [if_neg hc]
    simp only [not_or, Bool.not_eq_false, ne_eq, Decidable.not_not] at hc
    obtain ⟨h1, rfl, _, h3⟩ := hc
    obtain ⟨x, y, e1, e2, e3⟩ := clash_ex wd R s t n n' a ds ds' h1 h h3
    obtain ⟨m1, m2⟩ := unl_mem _ _ _ _ e1
    rw [List.mem_reverse] at m1 m2
    refine .inr ⟨x, y, e1, ?_, e2, e3, imgsS_two _ _ _ _ _ x m1, imgsS_two _ _ _ _ _ y m2, imgsS_short _ _ hs _ _ _ x m1, imgsS_short _ _ ht _ _ _ y m2⟩
    have : ¬ t = s := fun e => h1 e.symm
    simp [h3, this]
end Go.Proofs.Ytjmkcndjjfokiaa
