/- The plain law of tries, third part: what Put and Get do is what they do to a list in order. It imports nothing of the program. -/
import Derived.Test.YtkcnoljjilhpoaaTri1
namespace Go.Proofs.Ytkcnoljjilhpoaa
def getL (k : Key) (l : List Ent) : Key := match l.find? (fun x => x.1 == k) with | some x => x.2 | none => []
theorem getL_mem {k v : Key} {l : List Ent} (hs : l.Pairwise Lt) (h : (k, v) ∈ l) : getL k l = v := by
  unfold getL
  induction l with
  | nil => simp at h
  | cons y l ih =>
    obtain ⟨h1, h2⟩ := List.pairwise_cons.mp hs
    rw [List.find?_cons]
    rcases List.mem_cons.mp h with e | e
    · subst e; simp
    · have hne : (y.1 == k) = false := by
        rw [beq_eq_false_iff_ne]
        intro he
        have := h1 _ e
        unfold Lt at this
        rw [he] at this
        rw [less_irr] at this; cases this
      rw [hne]
      exact ih h2 e
theorem getL_none {k : Key} {l : List Ent} (h : ∀ x, x ∈ l → x.1 ≠ k) : getL k l = [] := by
  unfold getL
  rw [List.find?_eq_none.mpr fun x hx => by simpa using h x hx]
namespace Tr
theorem osorted : ∀ (t : Option Tr), ook t → (oitems t).Pairwise Lt
  | none, _ => by simp [oitems]
  | some t, h => t.sorted h
theorem find_other {k : Key} {t : Tr} (h : t.ok) (hf : (t.find k).1 ≠ k) : ∀ x, x ∈ t.items → x.1 ≠ k := fun x hx e => by
  subst e
  exact hf (by rw [find_self t h x hx])
theorem get_yes {k : Key} {t : Tr} (h : t.ok) (hf : (t.find k).1 = k) : getL k t.items = (t.find k).2 :=
  getL_mem (t.sorted h) (by have := t.find_mem k; rwa [show t.find k = (k, (t.find k).2) from Prod.ext hf rfl] at this)
theorem get_no {k : Key} {t : Tr} (h : t.ok) (hf : (t.find k).1 ≠ k) : getL k t.items = [] := getL_none (find_other h hf)
theorem put_del {k : Key} {t : Tr} (h : t.ok) (hf : (t.find k).1 = k) : ook (t.del k) ∧ oitems (t.del k) = putL k [] t.items := by
  obtain ⟨a, b⟩ := del_spec k t h hf
  obtain ⟨c, d⟩ := putL_spec k [] t.items (t.sorted h)
  exact ⟨a, sorted_ext (osorted _ a) c fun x => by rw [b, d]; simp⟩
theorem put_skip {k : Key} {t : Tr} (h : t.ok) (hf : (t.find k).1 ≠ k) : t.items = putL k [] t.items := by
  obtain ⟨c, d⟩ := putL_spec k [] t.items (t.sorted h)
  refine sorted_ext (t.sorted h) c fun x => ?_
  rw [d]
  simp only [ne_eq, not_true_eq_false, false_and, false_or]
  exact ⟨fun hx => ⟨hx, find_other h hf x hx⟩, fun hx => hx.1⟩
theorem put_upd {k v : Key} {t : Tr} (h : t.ok) (hv : v ≠ []) (hf : (t.find k).1 = k) : (t.upd k v).ok ∧ (t.upd k v).items = putL k v t.items := by
  obtain ⟨a, b, _⟩ := upd_spec k v t h hf
  obtain ⟨c, d⟩ := putL_spec k v t.items (t.sorted h)
  exact ⟨a, sorted_ext (sorted _ a) c fun x => by rw [b, d]; simp [hv]⟩
theorem put_ins {k v : Key} {t : Tr} {p : Nat} (h : t.ok) (hv : v ≠ []) (h1 : Agree k (t.find k).1 p) (h2 : bitB k p ≠ bitB (t.find k).1 p) : (t.ins k v p).ok ∧ (t.ins k v p).items = putL k v t.items := by
  obtain ⟨a, b⟩ := ins_spec k v p t h h1 h2
  obtain ⟨c, d⟩ := putL_spec k v t.items (t.sorted h)
  have hf : (t.find k).1 ≠ k := fun e => h2 (by rw [e])
  refine ⟨a, sorted_ext (sorted _ a) c fun x => ?_⟩
  rw [b, d]
  constructor
  · rintro (e | e)
    · exact .inl ⟨hv, e⟩
    · exact .inr ⟨e, find_other h hf x e⟩
  · rintro (⟨_, e⟩ | ⟨e, _⟩)
    · exact .inl e
    · exact .inr e
end Tr
theorem putL_nil_nil (k : Key) : putL k [] [] = [] := rfl
theorem putL_nil {k v : Key} (hv : v ≠ []) : putL k v [] = [(k, v)] := by
  unfold putL
  have : v.isEmpty = false := by cases v with | nil => exact absurd rfl hv | cons _ _ => rfl
  rw [this]; rfl
theorem putL_all {P : Ent → Prop} {k v : Key} {l : List Ent} (hs : l.Pairwise Lt) (h : v ≠ [] → P (k, v)) (hl : ∀ x, x ∈ l → P x) : ∀ x, x ∈ putL k v l → P x := fun x hx => by
  rcases ((putL_spec k v l hs).2 x).mp hx with ⟨a, e⟩ | ⟨a, _⟩
  · rw [e]; exact h a
  · exact hl x a
theorem putL_len {k v : Key} : ∀ (l : List Ent), (putL k v l).length ≤ l.length + 1 := by
  intro l
  unfold putL
  have ht : ∀ l, (putF k v true l).length ≤ l.length := fun l => by rw [putT_eq]; exact List.length_filter_le ..
  have hf : ∀ l, (putF k v false l).length ≤ l.length + 1 := by
    intro l
    induction l with
    | nil => simp [putF]
    | cons y l ih =>
      have := ht l
      rw [putF]
      split
      · split <;> simp <;> omega
      · split <;> simp <;> omega
  cases v.isEmpty
  · exact hf l
  · have := ht l; omega
end Go.Proofs.Ytkcnoljjilhpoaa
