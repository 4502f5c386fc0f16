/- The plain law of a check of code: what is answered, step by step. It imports nothing of the program. -/
import Derived.Test.YtkcnoljjilhpoaaCode3
namespace Go.Proofs.Ytkcnoljjilhpoaa
theorem any_head {α : Type} {l : List α} {f : α → Bool} {k : Nat} (hk : k < l.length) (h : f l[k] = true) : l.any f = true := List.any_eq_true.mpr ⟨l[k], List.getElem_mem hk, h⟩
theorem any_step {α : Type} {l : List α} {f : α → Bool} {k : Nat} (hk : k < l.length) (h : f l[k] = false) (e : (l.drop k).any f = l.any f) : (l.drop (k + 1)).any f = l.any f := by
  rw [List.drop_eq_getElem_cons hk, List.any_cons, h, Bool.false_or] at e
  exact e
theorem any_end {α : Type} {l : List α} {f : α → Bool} {k : Nat} (hk : l.length ≤ k) (e : (l.drop k).any f = l.any f) : l.any f = false := by
  rw [List.drop_eq_nil_of_le hk] at e
  exact e.symm
theorem all_head {α : Type} {l : List α} {f : α → Bool} {k : Nat} (hk : k < l.length) (h : f l[k] = false) : l.all f = false := by
  rw [List.all_eq_false]
  exact ⟨l[k], List.getElem_mem hk, by rw [h]; simp⟩
theorem all_step {α : Type} {l : List α} {f : α → Bool} {k : Nat} (hk : k < l.length) (h : f l[k] = true) (e : (l.drop k).all f = l.all f) : (l.drop (k + 1)).all f = l.all f := by
  rw [List.drop_eq_getElem_cons hk, List.all_cons, h, Bool.true_and] at e
  exact e
theorem all_end {α : Type} {l : List α} {f : α → Bool} {k : Nat} (hk : l.length ≤ k) (e : (l.drop k).all f = l.all f) : l.all f = true := by
  rw [List.drop_eq_nil_of_le hk] at e
  exact e.symm
section
variable {fl : Pce → Bool} {ps : List Pce} {nns : Nat}
theorem chk_long (h : 32 < ps.length) : chkS fl ps nns = 3 := by unfold chkS; rw [if_pos h]
theorem chk_big (h : ps.any bigB = true) : chkS fl ps nns = 3 := by
  unfold chkS
  rw [if_pos h]
  split <;> rfl
theorem chk_bad (h : ¬ 32 < ps.length) (h1 : ps.any bigB = false) (h2 : ps.any (badB ps.length nns) = true) : chkS fl ps nns = 13 := by
  unfold chkS
  rw [if_neg h, h1, if_neg (by simp), if_pos h2]
theorem chk_no (h : ¬ 32 < ps.length) (h1 : ps.any bigB = false) (h3 : ps.all fl = false) : chkS fl ps nns = 13 := by
  unfold chkS
  rw [if_neg h, h1, if_neg (by simp), h3]
  split <;> simp
theorem chk_ok (h : ¬ 32 < ps.length) (h1 : ps.any bigB = false) (h2 : ps.any (badB ps.length nns) = false) (h3 : ps.all fl = true) : chkS fl ps nns = 0 := by
  unfold chkS
  rw [if_neg h, h1, if_neg (by simp), h2, if_neg (by simp), h3]
  simp
theorem not_big (h : ps.any bigB = false) {p : Pce} (hp : p ∈ ps) : p.body.length ≤ 2048 ∧ p.locals ≤ 32 ∧ p.params ≤ 8 := by
  have := (List.any_eq_false.mp h) p hp
  unfold bigB at this
  simp only [Bool.or_eq_true, decide_eq_true_eq, not_or] at this
  omega
theorem bigB_true {p : Pce} (h : ¬ (p.body.length ≤ 2048 ∧ p.locals ≤ 32 ∧ p.params ≤ 8)) : bigB p = true := by
  unfold bigB
  simp only [Bool.or_eq_true, decide_eq_true_eq]
  omega
theorem bigB_false {p : Pce} (h : p.body.length ≤ 2048 ∧ p.locals ≤ 32 ∧ p.params ≤ 8) : bigB p = false := by
  unfold bigB
  simp only [Bool.or_eq_false_iff, decide_eq_false_iff_not]
  omega
theorem badB_par {nps : Nat} {p : Pce} (h : p.params < 0 ∨ p.locals < p.params) : badB nps nns p = true := by
  unfold badB
  simp only [Bool.or_eq_true, decide_eq_true_eq]
  exact .inl h
theorem badB_body {nps : Nat} {p : Pce} (h : p.body.all (fitS nps nns p) = false) : badB nps nns p = true := by
  unfold badB
  rw [h]
  simp
theorem badB_ok {nps : Nat} {p : Pce} (h : ¬ (p.params < 0 ∨ p.locals < p.params)) (h2 : p.body.all (fitS nps nns p) = true) : badB nps nns p = false := by
  unfold badB
  rw [h2]
  simp only [Bool.or_eq_false_iff, decide_eq_false_iff_not, Bool.not_true, and_true]
  omega
/-- what is known of each function when the flows are looked at -/
theorem few_of (h1 : ps.any bigB = false) (h2 : ps.any (badB ps.length nns) = false) (h : ¬ 32 < ps.length) : Few ps ∧ ∀ p, p ∈ ps → (∀ x, x ∈ p.body → Fit ps.length p.body.length x) ∧ p.body.length ≤ 2048 ∧ -9223372036854775807 ≤ p.locals ∧ p.locals ≤ 32 := by
  have key : ∀ p, p ∈ ps → 0 ≤ p.params ∧ p.params ≤ p.locals ∧ p.body.all (fitS ps.length nns p) = true := fun p hp => by
    have := (List.any_eq_false.mp h2) p hp
    unfold badB at this
    simp only [Bool.or_eq_true, decide_eq_true_eq, not_or, Bool.not_eq_true', Bool.not_eq_false] at this
    obtain ⟨⟨a, b⟩, c⟩ := this
    exact ⟨by omega, by omega, c⟩
  refine ⟨fun p hp => ?_, fun p hp => ?_⟩
  · have a := key p hp
    have b := not_big h1 hp
    omega
  · obtain ⟨a, b, c⟩ := key p hp
    obtain ⟨d, e, f⟩ := not_big h1 hp
    exact ⟨fun x hx => fitS_fit (List.all_eq_true.mp c x hx) e d (by omega), d, by omega, e⟩
end
end Go.Proofs.Ytkcnoljjilhpoaa
