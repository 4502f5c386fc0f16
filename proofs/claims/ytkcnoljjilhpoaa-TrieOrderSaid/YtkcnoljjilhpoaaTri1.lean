/- The plain law of tries, second part: how many go to the left at a place. It imports nothing of the program. -/
import Derived.Test.YtkcnoljjilhpoaaTri0
namespace Go.Proofs.Ytkcnoljjilhpoaa
/-- how many keys have a nought at a place -/
def zc (l : List Ent) (p : Nat) : Nat := l.countP fun x => !bitB x.1 p
theorem zc_append (l m : List Ent) (p : Nat) : zc (l ++ m) p = zc l p + zc m p := List.countP_append ..
theorem zc_all {l : List Ent} {p : Nat} (h : ∀ x, x ∈ l → bitB x.1 p = false) : zc l p = l.length := by
  unfold zc
  rw [List.countP_eq_length]
  intro x hx
  rw [h x hx]; rfl
theorem zc_none {l : List Ent} {p : Nat} (h : ∀ x, x ∈ l → bitB x.1 p = true) : zc l p = 0 := by
  unfold zc
  rw [List.countP_eq_zero]
  intro x hx
  rw [h x hx]; simp
theorem zc_le (l : List Ent) (p : Nat) : zc l p ≤ l.length := List.countP_le_length
theorem zc_same {l : List Ent} {p : Nat} (h : ∀ x, x ∈ l → ∀ y, y ∈ l → bitB x.1 p = bitB y.1 p) : zc l p = 0 ∨ zc l p = l.length := by
  cases l with
  | nil => exact .inl rfl
  | cons z l =>
    cases hz : bitB z.1 p
    · exact .inr (zc_all fun x hx => (h x hx z (by simp)).trans hz)
    · exact .inl (zc_none fun x hx => (h x hx z (by simp)).trans hz)
theorem zc_take (l : List Ent) (p k : Nat) (hk : k < l.length) : zc (l.take (k + 1)) p = zc (l.take k) p + (if bitB l[k].1 p then 0 else 1) := by
  rw [List.take_succ_eq_append_getElem hk, zc_append]
  congr 1
  unfold zc
  cases h : bitB l[k].1 p <;> simp [h]
namespace Tr
theorem zc_fork {q : Nat} {l r : Tr} (h : (fork q l r).ok) : zc (fork q l r).items q = l.items.length := by
  obtain ⟨_, _, h3, h4, _⟩ := h
  rw [items, zc_append, zc_all h3, zc_none h4, Nat.add_zero]
theorem zc_below {q p : Nat} {l r : Tr} (h : (fork q l r).ok) (hp : p < q) : zc (fork q l r).items p = 0 ∨ zc (fork q l r).items p = (fork q l r).items.length :=
  zc_same fun x hx y hy => h.2.2.2.2 x hx y hy p hp
/-- every place lies below nine times the longest key -/
theorem pos_lt {q n : Nat} {l r : Tr} (h : (fork q l r).ok) (hk : ∀ x, x ∈ (fork q l r).items → x.1.length ≤ n) : q < 9 * n := by
  obtain ⟨_, _, h3, h4, _⟩ := h
  obtain ⟨x, hx⟩ := List.exists_mem_of_length_pos l.items_pos
  obtain ⟨y, hy⟩ := List.exists_mem_of_length_pos r.items_pos
  refine parts_lt (a := x.1) (b := y.1) (by rw [h3 x hx, h4 y hy]; simp) (hk x ?_) (hk y ?_)
  · rw [items]; exact List.mem_append_left _ hx
  · rw [items]; exact List.mem_append_right _ hy
end Tr
/-! ### keys that begin with a text -/
theorem bitB_pre : ∀ (k r : Key) (p : Nat), p < 9 * k.length → bitB (k ++ r) p = bitB k p
  | [], _, _, h => by simp at h
  | c :: k, r, p, h => by
    simp only [List.length_cons] at h
    rw [List.cons_append, bitB, bitB]
    split
    · rfl
    · split
      · rfl
      · exact bitB_pre k r (p - 9) (by omega)
def preB (k x : Key) : Bool := k.isPrefixOf x
theorem preB_bit {k x : Key} (h : preB k x = true) {p : Nat} (hp : p < 9 * k.length) : bitB x p = bitB k p := by
  obtain ⟨r, rfl⟩ := List.isPrefixOf_iff_prefix.mp h
  exact bitB_pre k r p hp
def preL (k : Key) (l : List Ent) : List Ent := l.filter fun x => preB k x.1
theorem preL_append (k : Key) (l m : List Ent) : preL k (l ++ m) = preL k l ++ preL k m := List.filter_append ..
theorem preL_none {k : Key} {l : List Ent} (h : ∀ x, x ∈ l → preB k x.1 = false) : preL k l = [] := by
  unfold preL
  rw [List.filter_eq_nil_iff]
  intro x hx
  rw [h x hx]; simp
namespace Tr
/-- where the way of a text's bits ends -/
def sub (k : Key) : Tr → Tr
  | leaf a v => leaf a v
  | fork p l r => if p < 9 * k.length then (if bitB k p then r.sub k else l.sub k) else fork p l r
theorem sub_ok (k : Key) : ∀ t : Tr, t.ok → (t.sub k).ok
  | leaf _ _, _ => trivial
  | fork p l r, h => by
    rw [sub]
    split
    · split
      · exact sub_ok k r h.2.1
      · exact sub_ok k l h.1
    · exact h
theorem sub_pre (k : Key) : ∀ t : Tr, t.ok → preL k t.items = preL k (t.sub k).items
  | leaf _ _, _ => rfl
  | fork p l r, h => by
    obtain ⟨h1, h2, h3, h4, h5⟩ := h
    rw [sub, items, preL_append]
    split
    · rename_i hp
      cases hb : bitB k p
      · rw [if_neg (by simp), preL_none (l := r.items) (fun x hx => by
          cases hc : preB k x.1
          · rfl
          · have := preB_bit hc hp
            rw [h4 x hx, hb] at this; cases this), List.append_nil]
        exact sub_pre k l h1
      · rw [if_pos rfl, preL_none (l := l.items) (fun x hx => by
          cases hc : preB k x.1
          · rfl
          · have := preB_bit hc hp
            rw [h3 x hx, hb] at this; cases this), List.nil_append]
        exact sub_pre k r h2
    · rw [items, preL_append]
end Tr
end Go.Proofs.Ytkcnoljjilhpoaa
