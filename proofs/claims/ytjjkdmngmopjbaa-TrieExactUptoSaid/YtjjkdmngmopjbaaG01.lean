/- Of the texts Tri0, Tri1, Tri2. -/
import Derived.WalkKit
namespace Go.Proofs.Ytjjkdmngmopjbaa
open Go.Op (bytesLess)
abbrev Key := List UInt8
abbrev Ent := List UInt8 × List UInt8
/-- the bit of a key at a place -/
def bitB : Key → Nat → Bool
  | [], _ => false
  | c :: k, p => if p = 0 then true else if p < 9 then c.toNat.testBit (8 - p) else bitB k (p - 9)
theorem bitB_out : ∀ (k : Key) (p : Nat), k.length ≤ p / 9 → bitB k p = false
  | [], _, _ => rfl
  | c :: k, p, h => by
    simp only [List.length_cons] at h
    rw [bitB, if_neg (by omega), if_neg (by omega)]
    exact bitB_out k (p - 9) (by omega)
theorem bitB_one : ∀ (k : Key) (p : Nat), p / 9 < k.length → p % 9 = 0 → bitB k p = true
  | [], _, h, _ => by simp at h
  | c :: k, p, h, h0 => by
    simp only [List.length_cons] at h
    by_cases hp : p = 0
    · rw [bitB, if_pos hp]
    · rw [bitB, if_neg hp, if_neg (by omega)]
      exact bitB_one k (p - 9) (by omega) (by omega)
theorem bitB_in : ∀ (k : Key) (p : Nat) (h : p / 9 < k.length), p % 9 ≠ 0 → bitB k p = k[p / 9].toNat.testBit (8 - p % 9)
  | [], _, h, _ => by simp at h
  | c :: k, p, h, h0 => by
    simp only [List.length_cons] at h
    by_cases hp : p < 9
    · rw [bitB, if_neg (by omega), if_pos hp]
      have e1 : p / 9 = 0 := by omega
      have e2 : p % 9 = p := by omega
      simp [e1, e2]
    · rw [bitB, if_neg (by omega), if_neg hp]
      rw [bitB_in k (p - 9) (by omega) (by omega)]
      have e1 : (p - 9) / 9 = p / 9 - 1 := by omega
      have e2 : (p - 9) % 9 = p % 9 := by omega
      have e3 : p / 9 = (p / 9 - 1) + 1 := by omega
      simp only [e1, e2]
      congr 2
      rw [List.getElem_cons]
      rw [dif_neg (by omega)]
def Agree (a b : Key) (p : Nat) : Prop := ∀ q, q < p → bitB a q = bitB b q
theorem Agree.symm {a b : Key} {p : Nat} (h : Agree a b p) : Agree b a p := fun q hq => (h q hq).symm
theorem Agree.trans {a b c : Key} {p : Nat} (h : Agree a b p) (k : Agree b c p) : Agree a c p := fun q hq => (h q hq).trans (k q hq)
theorem Agree.less {a b : Key} {p q : Nat} (h : Agree a b p) (hq : q ≤ p) : Agree a b q := fun r hr => h r (by omega)
/-- two numbers part at a bit -/
theorem nat_part : ∀ (n x y : Nat), x < 2 ^ n → y < 2 ^ n → x < y → ∃ i, i < n ∧ (∀ j, j < i → x.testBit (n - 1 - j) = y.testBit (n - 1 - j)) ∧ x.testBit (n - 1 - i) = false ∧ y.testBit (n - 1 - i) = true
  | 0, x, y, h1, h2, h => by simp at h1 h2; omega
  | n + 1, x, y, h1, h2, h => by
    have hx : x / 2 ^ n < 2 := by rw [Nat.div_lt_iff_lt_mul (Nat.two_pow_pos n)]; rw [Nat.pow_succ] at h1; omega
    have hy : y / 2 ^ n < 2 := by rw [Nat.div_lt_iff_lt_mul (Nat.two_pow_pos n)]; rw [Nat.pow_succ] at h2; omega
    have hle : x / 2 ^ n ≤ y / 2 ^ n := Nat.div_le_div_right (by omega)
    by_cases he : x / 2 ^ n = y / 2 ^ n
    · have hm : x % 2 ^ n < y % 2 ^ n := by
        have a1 := Nat.div_add_mod x (2 ^ n)
        have a2 := Nat.div_add_mod y (2 ^ n)
        rw [he] at a1
        omega
      obtain ⟨i, hi, ha, hb, hc⟩ := nat_part n (x % 2 ^ n) (y % 2 ^ n) (Nat.mod_lt _ (Nat.two_pow_pos n)) (Nat.mod_lt _ (Nat.two_pow_pos n)) hm
      have tb : ∀ z m, m < n → (z % 2 ^ n).testBit m = z.testBit m := fun z m hmn => by rw [Nat.testBit_mod_two_pow]; simp [hmn]
      refine ⟨i + 1, by omega, fun j hj => ?_, ?_, ?_⟩
      · by_cases hj0 : j = 0
        · subst hj0
          simp only [Nat.add_sub_cancel, Nat.sub_zero, Nat.testBit_eq_decide_div_mod_eq, he]
        · have h2 := ha (j - 1) (by omega)
          rw [tb _ _ (by omega), tb _ _ (by omega)] at h2
          have e : n + 1 - 1 - j = n - 1 - (j - 1) := by omega
          rw [e]; exact h2
      · have e : n + 1 - 1 - (i + 1) = n - 1 - i := by omega
        rw [tb _ _ (by omega)] at hb
        rw [e]; exact hb
      · have e : n + 1 - 1 - (i + 1) = n - 1 - i := by omega
        rw [tb _ _ (by omega)] at hc
        rw [e]; exact hc
    · refine ⟨0, by omega, fun j hj => absurd hj (by omega), ?_, ?_⟩
      · simp only [Nat.add_sub_cancel, Nat.sub_zero, Nat.testBit_eq_decide_div_mod_eq]
        have : x / 2 ^ n = 0 := by generalize x / 2 ^ n = d at *; generalize y / 2 ^ n = e at *; omega
        simp [this]
      · simp only [Nat.add_sub_cancel, Nat.sub_zero, Nat.testBit_eq_decide_div_mod_eq]
        have : y / 2 ^ n = 1 := by generalize x / 2 ^ n = d at *; generalize y / 2 ^ n = e at *; omega
        simp [this]
theorem less_part : ∀ (a b : Key), bytesLess a b = true → ∃ p, Agree a b p ∧ bitB a p = false ∧ bitB b p = true
  | _, [], h => by cases h2 : (‹Key› : Key) <;> simp [bytesLess] at h
  | [], c :: k, _ => ⟨0, fun q hq => absurd hq (by omega), rfl, by rw [bitB, if_pos rfl]⟩
  | c :: k, d :: m, h => by
    simp only [bytesLess, Bool.or_eq_true, decide_eq_true_eq, Bool.and_eq_true, beq_iff_eq] at h
    rcases h with h | ⟨rfl, h⟩
    · obtain ⟨i, hi, ha, hb, hc⟩ := nat_part 8 c.toNat d.toNat c.toNat_lt d.toNat_lt (UInt8.lt_iff_toNat_lt.mp h)
      refine ⟨i + 1, fun q hq => ?_, ?_, ?_⟩
      · by_cases hq0 : q = 0
        · subst hq0; rw [bitB, bitB, if_pos rfl, if_pos rfl]
        · rw [bitB, bitB, if_neg hq0, if_neg hq0, if_pos (by omega), if_pos (by omega)]
          have := ha (q - 1) (by omega)
          have e : 8 - 1 - (q - 1) = 8 - q := by omega
          rw [e] at this; exact this
      · rw [bitB, if_neg (by omega), if_pos (by omega)]
        have e : 8 - 1 - i = 8 - (i + 1) := by omega
        rw [e] at hb; exact hb
      · rw [bitB, if_neg (by omega), if_pos (by omega)]
        have e : 8 - 1 - i = 8 - (i + 1) := by omega
        rw [e] at hc; exact hc
    · obtain ⟨p, ha, hb, hc⟩ := less_part k m h
      refine ⟨p + 9, fun q hq => ?_, ?_, ?_⟩
      · rw [bitB, bitB]
        by_cases hq0 : q = 0
        · rw [if_pos hq0, if_pos hq0]
        · rw [if_neg hq0, if_neg hq0]
          by_cases hq9 : q < 9
          · rw [if_pos hq9, if_pos hq9]
          · rw [if_neg hq9, if_neg hq9]
            exact ha (q - 9) (by omega)
      · rw [bitB, if_neg (by omega), if_neg (by omega)]; simpa using hb
      · rw [bitB, if_neg (by omega), if_neg (by omega)]; simpa using hc
theorem less_tri : ∀ (a b : Key), a ≠ b → bytesLess a b = false → bytesLess b a = true
  | [], [], h, _ => absurd rfl h
  | _ :: _, [], _, _ => rfl
  | [], _ :: _, _, h => by simp [bytesLess] at h
  | c :: k, d :: m, hne, h => by
    simp only [bytesLess, Bool.or_eq_false_iff, decide_eq_false_iff_not, Bool.and_eq_false_iff] at h
    simp only [bytesLess, Bool.or_eq_true, decide_eq_true_eq, Bool.and_eq_true, beq_iff_eq]
    by_cases he : c = d
    · subst he
      right
      refine ⟨rfl, less_tri k m (fun e => hne (by rw [e])) ?_⟩
      rcases h.2 with h | h
      · simp at h
      · exact h
    · left
      have := h.1
      rw [UInt8.lt_iff_toNat_lt] at this ⊢
      have hn : c.toNat ≠ d.toNat := fun e => he (UInt8.toNat_inj.mp e)
      omega
theorem first_part {a b : Key} {p q : Nat} (h : Agree a b p) (h1 : bitB a p ≠ bitB b p) (k : Agree a b q) (k1 : bitB a q ≠ bitB b q) : p = q := by
  rcases Nat.lt_trichotomy p q with hlt | he | hgt
  · exact absurd (k p hlt) h1
  · exact he
  · exact absurd (h q hgt) k1
theorem less_asym {a b : Key} (h : bytesLess a b = true) : bytesLess b a = false := by
  cases hc : bytesLess b a
  · rfl
  · obtain ⟨p, h1, h2, h3⟩ := less_part a b h
    obtain ⟨q, k1, k2, k3⟩ := less_part b a hc
    have := first_part h1 (by rw [h2, h3]; simp) k1.symm (by rw [k2, k3]; simp)
    subst this
    rw [h2] at k3; cases k3
theorem less_irr (a : Key) : bytesLess a a = false := by
  cases hc : bytesLess a a
  · rfl
  · have := less_asym hc; rw [hc] at this; exact this
theorem part_less {a b : Key} {p : Nat} (h : Agree a b p) (h0 : bitB a p = false) (h1 : bitB b p = true) : bytesLess a b = true := by
  cases hc : bytesLess a b
  · have hne : a ≠ b := fun e => by subst e; rw [h0] at h1; cases h1
    obtain ⟨q, k1, k2, k3⟩ := less_part b a (less_tri a b hne hc)
    have := first_part h (by rw [h0, h1]; simp) k1.symm (by rw [k2, k3]; simp)
    subst this
    rw [h0] at k3; cases k3
  · rfl
theorem less_trans {a b c : Key} (h : bytesLess a b = true) (k : bytesLess b c = true) : bytesLess a c = true := by
  obtain ⟨p, h1, h2, h3⟩ := less_part a b h
  obtain ⟨q, k1, k2, k3⟩ := less_part b c k
  rcases Nat.lt_trichotomy p q with hlt | he | hgt
  · exact part_less (h1.trans (k1.less (by omega))) h2 ((k1 p hlt).symm.trans h3)
  · subst he; rw [h3] at k2; cases k2
  · exact part_less ((h1.less (by omega)).trans k1) ((h1 q hgt).trans k2) k3
/-- unlike keys part somewhere -/
theorem parts_ex {a b : Key} (h : a ≠ b) : ∃ p, Agree a b p ∧ bitB a p ≠ bitB b p := by
  cases hc : bytesLess a b
  · obtain ⟨q, k1, k2, k3⟩ := less_part b a (less_tri a b h hc)
    exact ⟨q, k1.symm, by rw [k2, k3]; simp⟩
  · obtain ⟨q, k1, k2, k3⟩ := less_part a b hc
    exact ⟨q, k1, by rw [k2, k3]; simp⟩
/-- they part early -/
theorem parts_lt {a b : Key} {p n : Nat} (h : bitB a p ≠ bitB b p) (ha : a.length ≤ n) (hb : b.length ≤ n) : p < 9 * n := by
  rcases Nat.lt_or_ge p (9 * n) with h1 | h1
  · exact h1
  · rw [bitB_out a p (by omega), bitB_out b p (by omega)] at h
    exact absurd rfl h
/-! ### sorted lists -/
def Lt (x y : Ent) : Prop := bytesLess x.1 y.1 = true
theorem sorted_ext : ∀ {l m : List Ent}, l.Pairwise Lt → m.Pairwise Lt → (∀ x, x ∈ l ↔ x ∈ m) → l = m
  | [], [], _, _, _ => rfl
  | [], y :: m, _, _, h => absurd ((h y).mpr (by simp)) (by simp)
  | x :: l, [], _, _, h => absurd ((h x).mp (by simp)) (by simp)
  | x :: l, y :: m, hl, hm, h => by
    obtain ⟨h1, h2⟩ := List.pairwise_cons.mp hl
    obtain ⟨k1, k2⟩ := List.pairwise_cons.mp hm
    have he : x = y := by
      have a := (h x).mp (by simp)
      have b := (h y).mpr (by simp)
      rcases List.mem_cons.mp a with a | a
      · exact a
      · rcases List.mem_cons.mp b with b | b
        · exact b.symm
        · have c1 := k1 x a
          have c2 := h1 y b
          unfold Lt at c1 c2
          rw [less_asym c1] at c2; cases c2
    subst he
    have hx : ∀ z, z ∈ l → z ≠ x := fun z hz e => by subst e; have := h1 z hz; unfold Lt at this; rw [less_irr] at this; cases this
    have hx' : ∀ z, z ∈ m → z ≠ x := fun z hz e => by subst e; have := k1 z hz; unfold Lt at this; rw [less_irr] at this; cases this
    rw [sorted_ext h2 k2 fun z => ⟨fun hz => by
      rcases List.mem_cons.mp ((h z).mp (List.mem_cons_of_mem _ hz)) with e | e
      · exact absurd e (hx z hz)
      · exact e, fun hz => by
      rcases List.mem_cons.mp ((h z).mpr (List.mem_cons_of_mem _ hz)) with e | e
      · exact absurd e (hx' z hz)
      · exact e⟩]
/-- what the reference's Put makes of a list (done: nothing more is put in) -/
def putF (k v : Key) : Bool → List Ent → List Ent
  | true, [] => []
  | false, [] => [(k, v)]
  | true, x :: l => if x.1 = k then putF k v true l else x :: putF k v true l
  | false, x :: l => if bytesLess k x.1 || k == x.1 then (k, v) :: (if x.1 = k then putF k v true l else x :: putF k v true l) else (if x.1 = k then putF k v false l else x :: putF k v false l)
def putL (k v : Key) (l : List Ent) : List Ent := putF k v v.isEmpty l
theorem putT_eq (k v : Key) : ∀ l, putF k v true l = l.filter fun x => !(x.1 == k)
  | [] => rfl
  | x :: l => by
    rw [putF, putT_eq k v l, List.filter_cons]
    by_cases h : x.1 = k <;> simp [h]
theorem putF_spec (k v : Key) : ∀ (l : List Ent), l.Pairwise Lt → (putF k v false l).Pairwise Lt ∧ ∀ x, x ∈ putF k v false l ↔ (x = (k, v) ∨ x ∈ l ∧ x.1 ≠ k)
  | [], _ => by simp [putF]
  | y :: l, hl => by
    obtain ⟨h1, h2⟩ := List.pairwise_cons.mp hl
    obtain ⟨i1, i2⟩ := putF_spec k v l h2
    have hf : ∀ z, z ∈ l → z.1 ≠ y.1 := fun z hz e => by have := h1 z hz; unfold Lt at this; rw [e, less_irr] at this; cases this
    rw [putF]
    by_cases hlt : bytesLess k y.1 = true
    · have hne : y.1 ≠ k := fun e => by rw [e, less_irr] at hlt; cases hlt
      have hall : ∀ z, z ∈ l → bytesLess k z.1 = true := fun z hz => less_trans hlt (h1 z hz)
      have hfil : l.filter (fun x => !(x.1 == k)) = l := List.filter_eq_self.mpr fun z hz => by
        have := hall z hz
        have : z.1 ≠ k := fun e => by rw [e, less_irr] at this; cases this
        simp [this]
      rw [if_pos (by simp [hlt]), if_neg hne, putT_eq, hfil]
      refine ⟨List.pairwise_cons.mpr ⟨fun z hz => ?_, hl⟩, fun x => ?_⟩
      · rcases List.mem_cons.mp hz with rfl | hz
        · exact hlt
        · exact hall z hz
      · constructor
        · intro hx
          rcases List.mem_cons.mp hx with rfl | hx
          · exact .inl rfl
          · refine .inr ⟨hx, ?_⟩
            rcases List.mem_cons.mp hx with rfl | hx
            · exact hne
            · have := hall x hx
              exact fun e => by rw [e, less_irr] at this; cases this
        · rintro (rfl | ⟨hx, _⟩)
          · simp
          · exact List.mem_cons_of_mem _ hx
    · by_cases he : y.1 = k
      · have hfil : l.filter (fun x => !(x.1 == k)) = l := List.filter_eq_self.mpr fun z hz => by
          have := hf z hz
          rw [he] at this
          simp [this]
        rw [if_pos (by simp [he]), if_pos he, putT_eq, hfil]
        refine ⟨List.pairwise_cons.mpr ⟨fun z hz => ?_, h2⟩, fun x => ?_⟩
        · have := h1 z hz; unfold Lt at this ⊢; rw [he] at this; exact this
        · constructor
          · intro hx
            rcases List.mem_cons.mp hx with rfl | hx
            · exact .inl rfl
            · exact .inr ⟨List.mem_cons_of_mem _ hx, by have := hf x hx; rwa [he] at this⟩
          · rintro (rfl | ⟨hx, hxk⟩)
            · simp
            · rcases List.mem_cons.mp hx with rfl | hx
              · exact absurd he hxk
              · exact List.mem_cons_of_mem _ hx
      · have hk : ¬ (bytesLess k y.1 || k == y.1) = true := by
          simp only [Bool.or_eq_true, beq_iff_eq]
          rintro (h | h)
          · exact hlt h
          · exact he h.symm
        rw [if_neg hk, if_neg he]
        have hyk : bytesLess y.1 k = true := less_tri k y.1 (fun e => he e.symm) (by simpa using hlt)
        refine ⟨List.pairwise_cons.mpr ⟨fun z hz => ?_, i1⟩, fun x => ?_⟩
        · rcases (i2 z).mp hz with rfl | ⟨hz, _⟩
          · exact hyk
          · exact h1 z hz
        · rw [List.mem_cons, i2 x, List.mem_cons]
          constructor
          · rintro (rfl | h | ⟨h, h'⟩)
            · exact .inr ⟨.inl rfl, he⟩
            · exact .inl h
            · exact .inr ⟨.inr h, h'⟩
          · rintro (h | ⟨rfl | h, h'⟩)
            · exact .inr (.inl h)
            · exact .inl rfl
            · exact .inr (.inr ⟨h, h'⟩)
theorem putL_spec (k v : Key) (l : List Ent) (hl : l.Pairwise Lt) : (putL k v l).Pairwise Lt ∧ ∀ x, x ∈ putL k v l ↔ ((v ≠ [] ∧ x = (k, v)) ∨ x ∈ l ∧ x.1 ≠ k) := by
  unfold putL
  cases v with
  | nil =>
    simp only [List.isEmpty_nil]
    rw [putT_eq]
    refine ⟨hl.filter _, fun x => ?_⟩
    simp
  | cons c v =>
    simp only [List.isEmpty_cons]
    obtain ⟨a, b⟩ := putF_spec k (c :: v) l hl
    refine ⟨a, fun x => ?_⟩
    rw [b x]; simp
/-! ### trees -/
inductive Tr where
  | leaf (k v : Key)
  | fork (p : Nat) (l r : Tr)
namespace Tr
def items : Tr → List Ent
  | leaf k v => [(k, v)]
  | fork _ l r => l.items ++ r.items
/-- all its keys are alike below a place -/
def upto (t : Tr) (p : Nat) : Prop := ∀ x, x ∈ t.items → ∀ y, y ∈ t.items → Agree x.1 y.1 p
def ok : Tr → Prop
  | leaf _ _ => True
  | fork p l r => l.ok ∧ r.ok ∧ (∀ x, x ∈ l.items → bitB x.1 p = false) ∧ (∀ x, x ∈ r.items → bitB x.1 p = true) ∧ (fork p l r).upto p
def find (k : Key) : Tr → Ent
  | leaf a v => (a, v)
  | fork p l r => if bitB k p then r.find k else l.find k
theorem items_ne : ∀ t : Tr, t.items ≠ []
  | leaf k v => by simp [items]
  | fork p l r => by simp [items, items_ne l]
theorem items_pos (t : Tr) : 0 < t.items.length := List.length_pos_iff.mpr t.items_ne
theorem find_mem (k : Key) : ∀ t : Tr, t.find k ∈ t.items
  | leaf a v => by simp [find, items]
  | fork p l r => by
    rw [find, items, List.mem_append]
    split
    · exact .inr (find_mem k r)
    · exact .inl (find_mem k l)
theorem find_self : ∀ (t : Tr), t.ok → ∀ x, x ∈ t.items → t.find x.1 = x
  | leaf a v, _, x, hx => by simp [items] at hx; subst hx; rfl
  | fork p l r, h, x, hx => by
    obtain ⟨h1, h2, h3, h4, h5⟩ := h
    rw [find]
    rcases List.mem_append.mp hx with hx | hx
    · rw [h3 x hx, if_neg (by simp)]; exact find_self l h1 x hx
    · rw [h4 x hx, if_pos rfl]; exact find_self r h2 x hx
theorem sorted : ∀ (t : Tr), t.ok → t.items.Pairwise Lt
  | leaf _ _, _ => by simp [items]
  | fork p l r, h => by
    obtain ⟨h1, h2, h3, h4, h5⟩ := h
    rw [items, List.pairwise_append]
    refine ⟨sorted l h1, sorted r h2, fun x hx y hy => ?_⟩
    exact part_less (h5 x (List.mem_append_left _ hx) y (List.mem_append_right _ hy)) (h3 x hx) (h4 y hy)
/-- one list, one tree -/
theorem unique : ∀ (t u : Tr), t.ok → u.ok → t.items = u.items → t = u
  | leaf a v, leaf b x, _, _, h => by simp [items] at h; rw [h.1, h.2]
  | leaf a v, fork p l r, _, _, h => by
    have := congrArg List.length h
    have h1 := l.items_pos
    have h2 := r.items_pos
    simp [items] at this; omega
  | fork p l r, leaf a v, _, _, h => by
    have := congrArg List.length h
    have h1 := l.items_pos
    have h2 := r.items_pos
    simp [items] at this; omega
  | fork p l r, fork q m s, ht, hu, h => by
    obtain ⟨h1, h2, h3, h4, h5⟩ := ht
    obtain ⟨k1, k2, k3, k4, k5⟩ := hu
    have hpq : p = q := by
      obtain ⟨x, hx⟩ := List.exists_mem_of_ne_nil _ l.items_ne
      obtain ⟨y, hy⟩ := List.exists_mem_of_ne_nil _ r.items_ne
      obtain ⟨x', hx'⟩ := List.exists_mem_of_ne_nil _ m.items_ne
      obtain ⟨y', hy'⟩ := List.exists_mem_of_ne_nil _ s.items_ne
      rcases Nat.lt_trichotomy p q with hlt | he | hgt
      · have a := k5 x (by rw [← h]; exact List.mem_append_left _ hx) y (by rw [← h]; exact List.mem_append_right _ hy) p hlt
        rw [h3 x hx, h4 y hy] at a; cases a
      · exact he
      · have a := h5 x' (by rw [h]; exact List.mem_append_left _ hx') y' (by rw [h]; exact List.mem_append_right _ hy') q hgt
        rw [k3 x' hx', k4 y' hy'] at a; cases a
    subst hpq
    have hl : l.items = m.items ∧ r.items = s.items := by
      have f1 : (l.items ++ r.items).filter (fun x => !bitB x.1 p) = l.items := by
        rw [List.filter_append, List.filter_eq_self.mpr fun x hx => by simp [h3 x hx], List.filter_eq_nil_iff.mpr fun x hx => by simp [h4 x hx], List.append_nil]
      have f2 : (m.items ++ s.items).filter (fun x => !bitB x.1 p) = m.items := by
        rw [List.filter_append, List.filter_eq_self.mpr fun x hx => by simp [k3 x hx], List.filter_eq_nil_iff.mpr fun x hx => by simp [k4 x hx], List.append_nil]
      have e : l.items = m.items := by rw [← f1, ← f2]; exact congrArg _ h
      refine ⟨e, ?_⟩
      have h : l.items ++ r.items = m.items ++ s.items := h
      rw [e] at h
      exact List.append_cancel_left h
    rw [unique l m h1 k1 hl.1, unique r s h2 k2 hl.2]
def ins (k v : Key) (p : Nat) : Tr → Tr
  | leaf a x => if bitB k p then fork p (leaf a x) (leaf k v) else fork p (leaf k v) (leaf a x)
  | fork q l r => if p < q then (if bitB k p then fork p (fork q l r) (leaf k v) else fork p (leaf k v) (fork q l r)) else if bitB k q then fork q l (r.ins k v p) else fork q (l.ins k v p) r
def upd (k v : Key) : Tr → Tr
  | leaf _ _ => leaf k v
  | fork q l r => if bitB k q then fork q l (r.upd k v) else fork q (l.upd k v) r
def del (k : Key) : Tr → Option Tr
  | leaf _ _ => none
  | fork q l r => if bitB k q then (match r.del k with | none => some l | some r' => some (fork q l r')) else (match l.del k with | none => some r | some l' => some (fork q l' r))
def oitems : Option Tr → List Ent
  | none => []
  | some t => t.items
theorem upto_less {t : Tr} {p q : Nat} (h : t.upto p) (hq : q ≤ p) : t.upto q := fun x hx y hy => (h x hx y hy).less hq
theorem ok_upto {t : Tr} {q : Nat} : ∀ {l r : Tr}, t = fork q l r → t.ok → t.upto q := by
  rintro l r rfl h; exact h.2.2.2.2
/-- a new leaf beside a whole tree -/
theorem beside {t : Tr} {k v : Key} {p : Nat} (h : t.ok) (hu : t.upto p) (ha : ∀ x, x ∈ t.items → Agree k x.1 p) (hd : ∀ x, x ∈ t.items → bitB k p ≠ bitB x.1 p) :
    (if bitB k p then fork p t (leaf k v) else fork p (leaf k v) t).ok ∧ ∀ x, x ∈ (if bitB k p then fork p t (leaf k v) else fork p (leaf k v) t).items ↔ (x = (k, v) ∨ x ∈ t.items) := by
  cases hb : bitB k p
  · rw [if_neg (by simp)]
    refine ⟨⟨trivial, h, fun x hx => by simp [items] at hx; subst hx; exact hb, fun x hx => ?_, fun x hx y hy => ?_⟩, fun x => by simp [items]⟩
    · have := hd x hx; rw [hb] at this; simpa using this.symm
    · simp only [items, List.mem_append, List.mem_singleton] at hx hy
      rcases hx with rfl | hx <;> rcases hy with rfl | hy
      · exact fun _ _ => rfl
      · exact ha y hy
      · exact (ha x hx).symm
      · exact hu x hx y hy
  · rw [if_pos rfl]
    refine ⟨⟨h, trivial, fun x hx => ?_, fun x hx => by simp [items] at hx; subst hx; exact hb, fun x hx y hy => ?_⟩, fun x => by simp [items, or_comm]⟩
    · have := hd x hx; rw [hb] at this; simpa using this.symm
    · simp only [items, List.mem_append, List.mem_singleton] at hx hy
      rcases hx with hx | rfl <;> rcases hy with hy | rfl
      · exact hu x hx y hy
      · exact (ha x hx).symm
      · exact ha y hy
      · exact fun _ _ => rfl
theorem ins_spec (k v : Key) (p : Nat) : ∀ (t : Tr), t.ok → Agree k (t.find k).1 p → bitB k p ≠ bitB (t.find k).1 p → (t.ins k v p).ok ∧ ∀ x, x ∈ (t.ins k v p).items ↔ (x = (k, v) ∨ x ∈ t.items)
  | leaf a x, h, h1, h2 => beside (t := leaf a x) h (fun x hx y hy => by simp [items] at hx hy; rw [hx, hy]; exact fun _ _ => rfl) (fun x hx => by simp [items] at hx; rw [hx]; exact h1) (fun x hx => by simp [items] at hx; rw [hx]; exact h2)
  | fork q l r, h, h1, h2 => by
    rw [ins]
    have hu := h.2.2.2.2
    by_cases hpq : p < q
    · rw [if_pos hpq]
      have hm := find_mem k (fork q l r)
      refine beside h (upto_less hu (by omega)) (fun x hx => h1.trans ((hu _ hm x hx).less (by omega))) (fun x hx => ?_)
      rw [← hu _ hm x hx p hpq]; exact h2
    · rw [if_neg hpq]
      obtain ⟨g1, g2, g3, g4, g5⟩ := h
      have hqp : q < p := by
        rcases Nat.lt_or_ge q p with h | h
        · exact h
        · have : q = p := by omega
          subst this
          exfalso
          apply h2
          rw [find]
          cases hb : bitB k q
          · rw [if_neg (by simp)]; exact (g3 _ (find_mem k l)).symm
          · rw [if_pos rfl]; exact (g4 _ (find_mem k r)).symm
      rw [find] at h1 h2
      have hk : ∀ x, x ∈ (fork q l r).items → Agree k x.1 q := fun x hx => by
        have hm : (if bitB k q then r.find k else l.find k) ∈ (fork q l r).items := by
          rw [items, List.mem_append]; split
          · exact .inr (find_mem k r)
          · exact .inl (find_mem k l)
        exact (h1.less (by omega)).trans (g5 _ hm x hx)
      cases hb : bitB k q
      · rw [hb, if_neg (by simp)] at h1 h2
        rw [if_neg (by simp)]
        obtain ⟨i1, i2⟩ := ins_spec k v p l g1 h1 h2
        refine ⟨⟨i1, g2, fun x hx => ?_, g4, fun x hx y hy => ?_⟩, fun x => ?_⟩
        · rcases (i2 x).mp hx with rfl | hx
          · exact hb
          · exact g3 x hx
        · have side : ∀ z, z ∈ (fork q (l.ins k v p) r).items → z.1 = k ∨ z ∈ (fork q l r).items := fun z hz => by
            rw [items, List.mem_append] at hz
            rcases hz with hz | hz
            · rcases (i2 z).mp hz with rfl | hz
              · exact .inl rfl
              · exact .inr (List.mem_append_left _ hz)
            · exact .inr (List.mem_append_right _ hz)
          rcases side x hx with hx | hx <;> rcases side y hy with hy | hy
          · rw [hx, hy]; exact fun _ _ => rfl
          · rw [hx]; exact hk y hy
          · rw [hy]; exact (hk x hx).symm
          · exact g5 x hx y hy
        · simp only [items, List.mem_append, i2 x, or_assoc]
      · rw [hb, if_pos rfl] at h1 h2
        rw [if_pos rfl]
        obtain ⟨i1, i2⟩ := ins_spec k v p r g2 h1 h2
        refine ⟨⟨g1, i1, g3, fun x hx => ?_, fun x hx y hy => ?_⟩, fun x => ?_⟩
        · rcases (i2 x).mp hx with rfl | hx
          · exact hb
          · exact g4 x hx
        · have side : ∀ z, z ∈ (fork q l (r.ins k v p)).items → z.1 = k ∨ z ∈ (fork q l r).items := fun z hz => by
            rw [items, List.mem_append] at hz
            rcases hz with hz | hz
            · exact .inr (List.mem_append_left _ hz)
            · rcases (i2 z).mp hz with rfl | hz
              · exact .inl rfl
              · exact .inr (List.mem_append_right _ hz)
          rcases side x hx with hx | hx <;> rcases side y hy with hy | hy
          · rw [hx, hy]; exact fun _ _ => rfl
          · rw [hx]; exact hk y hy
          · rw [hy]; exact (hk x hx).symm
          · exact g5 x hx y hy
        · simp only [items, List.mem_append, i2 x]
          constructor
          · rintro (h | h | h)
            · exact .inr (.inl h)
            · exact .inl h
            · exact .inr (.inr h)
          · rintro (h | h | h)
            · exact .inr (.inl h)
            · exact .inl h
            · exact .inr (.inr h)
/-- the key of a thing in a tree lies on the side of its bit -/
theorem key_side {q : Nat} {l r : Tr} (h : (fork q l r).ok) {x : Ent} (hx : x ∈ (fork q l r).items) : (bitB x.1 q = false ↔ x ∈ l.items) ∧ (bitB x.1 q = true ↔ x ∈ r.items) := by
  obtain ⟨g1, g2, g3, g4, g5⟩ := h
  rcases List.mem_append.mp hx with hx | hx
  · have := g3 x hx
    refine ⟨⟨fun _ => hx, fun _ => this⟩, ⟨fun e => absurd (this.symm.trans e) (by simp), fun hr => g4 x hr⟩⟩
  · have := g4 x hx
    refine ⟨⟨fun e => absurd (this.symm.trans e) (by simp), fun hr => g3 x hr⟩, ⟨fun _ => hx, fun _ => this⟩⟩
theorem upd_spec (k v : Key) : ∀ (t : Tr), t.ok → (t.find k).1 = k → (t.upd k v).ok ∧ (∀ x, x ∈ (t.upd k v).items ↔ (x = (k, v) ∨ x ∈ t.items ∧ x.1 ≠ k)) ∧ (∀ x, x ∈ (t.upd k v).items → ∃ y, y ∈ t.items ∧ y.1 = x.1)
  | leaf a x, h, h1 => by
    have h1 : a = k := h1
    subst h1
    refine ⟨trivial, fun y => ?_, fun y hy => ⟨(a, x), by simp [items], ?_⟩⟩
    · simp only [upd, items, List.mem_singleton]
      constructor
      · exact .inl
      · rintro (h | ⟨rfl, h⟩)
        · exact h
        · exact absurd rfl h
    · simp [upd, items] at hy; rw [hy]
  | fork q l r, h, h1 => by
    have hks : ∀ x, x ∈ (fork q l r).items → x.1 = k → (bitB k q = false ↔ x ∈ l.items) ∧ (bitB k q = true ↔ x ∈ r.items) := fun x hx e => by have := key_side h hx; rwa [e] at this
    obtain ⟨g1, g2, g3, g4, g5⟩ := h
    rw [find] at h1
    rw [upd]
    cases hb : bitB k q
    · rw [hb, if_neg (by simp)] at h1
      rw [if_neg (by simp)]
      obtain ⟨i1, i2, i3⟩ := upd_spec k v l g1 h1
      refine ⟨⟨i1, g2, fun x hx => ?_, g4, fun x hx y hy => ?_⟩, fun x => ?_, fun x hx => ?_⟩
      · obtain ⟨y, hy, e⟩ := i3 x hx
        rw [← e]; exact g3 y hy
      · have side : ∀ z, z ∈ (fork q (l.upd k v) r).items → ∃ z', z' ∈ (fork q l r).items ∧ z'.1 = z.1 := fun z hz => by
          rcases List.mem_append.mp hz with hz | hz
          · obtain ⟨z', h1, h2⟩ := i3 z hz; exact ⟨z', List.mem_append_left _ h1, h2⟩
          · exact ⟨z, List.mem_append_right _ hz, rfl⟩
        obtain ⟨x', hx', ex⟩ := side x hx
        obtain ⟨y', hy', ey⟩ := side y hy
        rw [← ex, ← ey]; exact g5 x' hx' y' hy'
      · simp only [items, List.mem_append, i2 x]
        constructor
        · rintro ((h | ⟨h, h'⟩) | h)
          · exact .inl h
          · exact .inr ⟨.inl h, h'⟩
          · refine .inr ⟨.inr h, fun e => ?_⟩
            have := (hks x (List.mem_append_right _ h) e).2.mpr h
            rw [hb] at this; cases this
        · rintro (h | ⟨h | h, h'⟩)
          · exact .inl (.inl h)
          · exact .inl (.inr ⟨h, h'⟩)
          · exact .inr h
      · rcases List.mem_append.mp hx with hx | hx
        · obtain ⟨y, h1, h2⟩ := i3 x hx; exact ⟨y, List.mem_append_left _ h1, h2⟩
        · exact ⟨x, List.mem_append_right _ hx, rfl⟩
    · rw [hb, if_pos rfl] at h1
      rw [if_pos rfl]
      obtain ⟨i1, i2, i3⟩ := upd_spec k v r g2 h1
      refine ⟨⟨g1, i1, g3, fun x hx => ?_, fun x hx y hy => ?_⟩, fun x => ?_, fun x hx => ?_⟩
      · obtain ⟨y, hy, e⟩ := i3 x hx
        rw [← e]; exact g4 y hy
      · have side : ∀ z, z ∈ (fork q l (r.upd k v)).items → ∃ z', z' ∈ (fork q l r).items ∧ z'.1 = z.1 := fun z hz => by
          rcases List.mem_append.mp hz with hz | hz
          · exact ⟨z, List.mem_append_left _ hz, rfl⟩
          · obtain ⟨z', h1, h2⟩ := i3 z hz; exact ⟨z', List.mem_append_right _ h1, h2⟩
        obtain ⟨x', hx', ex⟩ := side x hx
        obtain ⟨y', hy', ey⟩ := side y hy
        rw [← ex, ← ey]; exact g5 x' hx' y' hy'
      · simp only [items, List.mem_append, i2 x]
        constructor
        · rintro (h | h | ⟨h, h'⟩)
          · refine .inr ⟨.inl h, fun e => ?_⟩
            have := (hks x (List.mem_append_left _ h) e).1.mpr h
            rw [hb] at this; cases this
          · exact .inl h
          · exact .inr ⟨.inr h, h'⟩
        · rintro (h | ⟨h | h, h'⟩)
          · exact .inr (.inl h)
          · exact .inl h
          · exact .inr (.inr ⟨h, h'⟩)
      · rcases List.mem_append.mp hx with hx | hx
        · exact ⟨x, List.mem_append_left _ hx, rfl⟩
        · obtain ⟨y, h1, h2⟩ := i3 x hx; exact ⟨y, List.mem_append_right _ h1, h2⟩
def ook : Option Tr → Prop
  | none => True
  | some t => t.ok
theorem del_spec (k : Key) : ∀ (t : Tr), t.ok → (t.find k).1 = k → ook (t.del k) ∧ ∀ x, x ∈ oitems (t.del k) ↔ (x ∈ t.items ∧ x.1 ≠ k)
  | leaf a x, h, h1 => by
    have h1 : a = k := h1
    subst h1
    refine ⟨trivial, fun y => ?_⟩
    simp only [del, oitems, items, List.mem_singleton, List.not_mem_nil, false_iff]
    rintro ⟨rfl, h⟩
    exact h rfl
  | fork q l r, h, h1 => by
    have hks : ∀ x, x ∈ (fork q l r).items → x.1 = k → (bitB k q = false ↔ x ∈ l.items) ∧ (bitB k q = true ↔ x ∈ r.items) := fun x hx e => by have := key_side h hx; rwa [e] at this
    obtain ⟨g1, g2, g3, g4, g5⟩ := h
    rw [find] at h1
    rw [del]
    cases hb : bitB k q
    · rw [hb, if_neg (by simp)] at h1
      rw [if_neg (by simp)]
      have hr : ∀ x, x ∈ r.items → x.1 ≠ k := fun x h e => by
        have := (hks x (List.mem_append_right _ h) e).2.mpr h
        rw [hb] at this; cases this
      obtain ⟨i1, i2⟩ := del_spec k l g1 h1
      cases hd : l.del k with
      | none =>
        rw [hd] at i2
        refine ⟨g2, fun x => ?_⟩
        have i2 := i2 x
        simp only [oitems, List.not_mem_nil, false_iff] at i2
        simp only [oitems, items, List.mem_append]
        exact ⟨fun h => ⟨.inr h, hr x h⟩, fun ⟨h, h'⟩ => h.elim (fun h => absurd ⟨h, h'⟩ i2) id⟩
      | some l' =>
        rw [hd] at i1 i2
        have sub : ∀ z, z ∈ l'.items → z ∈ l.items := fun z hz => ((i2 z).mp hz).1
        have side : ∀ z, z ∈ (fork q l' r).items → z ∈ (fork q l r).items := fun z hz => by
          rcases List.mem_append.mp hz with hz | hz
          · exact List.mem_append_left _ (sub z hz)
          · exact List.mem_append_right _ hz
        refine ⟨⟨i1, g2, fun x hx => g3 x (sub x hx), g4, fun x hx y hy => g5 x (side x hx) y (side y hy)⟩, fun x => ?_⟩
        have i2 : x ∈ l'.items ↔ _ := i2 x
        simp only [oitems, items, List.mem_append, i2]
        constructor
        · rintro (⟨h, h'⟩ | h)
          · exact ⟨.inl h, h'⟩
          · exact ⟨.inr h, hr x h⟩
        · rintro ⟨h | h, h'⟩
          · exact .inl ⟨h, h'⟩
          · exact .inr h
    · rw [hb, if_pos rfl] at h1
      rw [if_pos rfl]
      have hl : ∀ x, x ∈ l.items → x.1 ≠ k := fun x h e => by
        have := (hks x (List.mem_append_left _ h) e).1.mpr h
        rw [hb] at this; cases this
      obtain ⟨i1, i2⟩ := del_spec k r g2 h1
      cases hd : r.del k with
      | none =>
        rw [hd] at i2
        refine ⟨g1, fun x => ?_⟩
        have i2 := i2 x
        simp only [oitems, List.not_mem_nil, false_iff] at i2
        simp only [oitems, items, List.mem_append]
        exact ⟨fun h => ⟨.inl h, hl x h⟩, fun ⟨h, h'⟩ => h.elim id (fun h => absurd ⟨h, h'⟩ i2)⟩
      | some r' =>
        rw [hd] at i1 i2
        have sub : ∀ z, z ∈ r'.items → z ∈ r.items := fun z hz => ((i2 z).mp hz).1
        have side : ∀ z, z ∈ (fork q l r').items → z ∈ (fork q l r).items := fun z hz => by
          rcases List.mem_append.mp hz with hz | hz
          · exact List.mem_append_left _ hz
          · exact List.mem_append_right _ (sub z hz)
        refine ⟨⟨g1, i1, g3, fun x hx => g4 x (sub x hx), fun x hx y hy => g5 x (side x hx) y (side y hy)⟩, fun x => ?_⟩
        have i2 : x ∈ r'.items ↔ _ := i2 x
        simp only [oitems, items, List.mem_append, i2]
        constructor
        · rintro (h | ⟨h, h'⟩)
          · exact ⟨.inl h, hl x h⟩
          · exact ⟨.inr h, h'⟩
        · rintro ⟨h | h, h'⟩
          · exact .inl h
          · exact .inr ⟨h, h'⟩
end Tr
end Go.Proofs.Ytjjkdmngmopjbaa

namespace Go.Proofs.Ytjjkdmngmopjbaa
/-- how many keys have a nought at a place -/
def zc (l : List Ent) (p : Nat) : Nat := l.countP fun x => !bitB x.1 p
theorem zc_append (l m : List Ent) (p : Nat) : zc (l ++ m) p = zc l p + zc m p := List.countP_append ..
theorem zc_all {l : List Ent} {p : Nat} (h : ∀ x, x ∈ l → bitB x.1 p = false) : zc l p = l.length := by
  unfold zc
  rw [List.countP_eq_length]
  intro x hx
  rw [h x hx]; rfl
theorem zc_none {l : List Ent} {p : Nat} (h : ∀ x, x ∈ l → bitB x.1 p = true) : zc l p = 0 := by
  unfold zc
  rw [List.countP_eq_zero]
  intro x hx
  rw [h x hx]; simp
theorem zc_le (l : List Ent) (p : Nat) : zc l p ≤ l.length := List.countP_le_length
theorem zc_same {l : List Ent} {p : Nat} (h : ∀ x, x ∈ l → ∀ y, y ∈ l → bitB x.1 p = bitB y.1 p) : zc l p = 0 ∨ zc l p = l.length := by
  cases l with
  | nil => exact .inl rfl
  | cons z l =>
    cases hz : bitB z.1 p
    · exact .inr (zc_all fun x hx => (h x hx z (by simp)).trans hz)
    · exact .inl (zc_none fun x hx => (h x hx z (by simp)).trans hz)
theorem zc_take (l : List Ent) (p k : Nat) (hk : k < l.length) : zc (l.take (k + 1)) p = zc (l.take k) p + (if bitB l[k].1 p then 0 else 1) := by
  rw [List.take_succ_eq_append_getElem hk, zc_append]
  congr 1
  unfold zc
  cases h : bitB l[k].1 p <;> simp [h]
namespace Tr
theorem zc_fork {q : Nat} {l r : Tr} (h : (fork q l r).ok) : zc (fork q l r).items q = l.items.length := by
  obtain ⟨_, _, h3, h4, _⟩ := h
  rw [items, zc_append, zc_all h3, zc_none h4, Nat.add_zero]
theorem zc_below {q p : Nat} {l r : Tr} (h : (fork q l r).ok) (hp : p < q) : zc (fork q l r).items p = 0 ∨ zc (fork q l r).items p = (fork q l r).items.length :=
  zc_same fun x hx y hy => h.2.2.2.2 x hx y hy p hp
/-- every place lies below nine times the longest key -/
theorem pos_lt {q n : Nat} {l r : Tr} (h : (fork q l r).ok) (hk : ∀ x, x ∈ (fork q l r).items → x.1.length ≤ n) : q < 9 * n := by
  obtain ⟨_, _, h3, h4, _⟩ := h
  obtain ⟨x, hx⟩ := List.exists_mem_of_length_pos l.items_pos
  obtain ⟨y, hy⟩ := List.exists_mem_of_length_pos r.items_pos
  refine parts_lt (a := x.1) (b := y.1) (by rw [h3 x hx, h4 y hy]; simp) (hk x ?_) (hk y ?_)
  · rw [items]; exact List.mem_append_left _ hx
  · rw [items]; exact List.mem_append_right _ hy
end Tr
/-! ### keys that begin with a text -/
theorem bitB_pre : ∀ (k r : Key) (p : Nat), p < 9 * k.length → bitB (k ++ r) p = bitB k p
  | [], _, _, h => by simp at h
  | c :: k, r, p, h => by
    simp only [List.length_cons] at h
    rw [List.cons_append, bitB, bitB]
    split
    · rfl
    · split
      · rfl
      · exact bitB_pre k r (p - 9) (by omega)
def preB (k x : Key) : Bool := k.isPrefixOf x
theorem preB_bit {k x : Key} (h : preB k x = true) {p : Nat} (hp : p < 9 * k.length) : bitB x p = bitB k p := by
  obtain ⟨r, rfl⟩ := List.isPrefixOf_iff_prefix.mp h
  exact bitB_pre k r p hp
def preL (k : Key) (l : List Ent) : List Ent := l.filter fun x => preB k x.1
theorem preL_append (k : Key) (l m : List Ent) : preL k (l ++ m) = preL k l ++ preL k m := List.filter_append ..
theorem preL_none {k : Key} {l : List Ent} (h : ∀ x, x ∈ l → preB k x.1 = false) : preL k l = [] := by
  unfold preL
  rw [List.filter_eq_nil_iff]
  intro x hx
  rw [h x hx]; simp
namespace Tr
/-- where the way of a text's bits ends -/
def sub (k : Key) : Tr → Tr
  | leaf a v => leaf a v
  | fork p l r => if p < 9 * k.length then (if bitB k p then r.sub k else l.sub k) else fork p l r
theorem sub_ok (k : Key) : ∀ t : Tr, t.ok → (t.sub k).ok
  | leaf _ _, _ => trivial
  | fork p l r, h => by
    rw [sub]
    split
    · split
      · exact sub_ok k r h.2.1
      · exact sub_ok k l h.1
    · exact h
theorem sub_pre (k : Key) : ∀ t : Tr, t.ok → preL k t.items = preL k (t.sub k).items
  | leaf _ _, _ => rfl
  | fork p l r, h => by
    obtain ⟨h1, h2, h3, h4, h5⟩ := h
    rw [sub, items, preL_append]
    split
    · rename_i hp
      cases hb : bitB k p
      · rw [if_neg (by simp), preL_none (l := r.items) (fun x hx => by
          cases hc : preB k x.1
          · rfl
          · have := preB_bit hc hp
            rw [h4 x hx, hb] at this; cases this), List.append_nil]
        exact sub_pre k l h1
      · rw [if_pos rfl, preL_none (l := l.items) (fun x hx => by
          cases hc : preB k x.1
          · rfl
          · have := preB_bit hc hp
            rw [h3 x hx, hb] at this; cases this), List.nil_append]
        exact sub_pre k r h2
    · rw [items, preL_append]
end Tr
end Go.Proofs.Ytjjkdmngmopjbaa

namespace Go.Proofs.Ytjjkdmngmopjbaa
def getL (k : Key) (l : List Ent) : Key := match l.find? (fun x => x.1 == k) with | some x => x.2 | none => []
theorem getL_mem {k v : Key} {l : List Ent} (hs : l.Pairwise Lt) (h : (k, v) ∈ l) : getL k l = v := by
  unfold getL
  induction l with
  | nil => simp at h
  | cons y l ih =>
    obtain ⟨h1, h2⟩ := List.pairwise_cons.mp hs
    rw [List.find?_cons]
    rcases List.mem_cons.mp h with e | e
    · subst e; simp
    · have hne : (y.1 == k) = false := by
        rw [beq_eq_false_iff_ne]
        intro he
        have := h1 _ e
        unfold Lt at this
        rw [he] at this
        rw [less_irr] at this; cases this
      rw [hne]
      exact ih h2 e
theorem getL_none {k : Key} {l : List Ent} (h : ∀ x, x ∈ l → x.1 ≠ k) : getL k l = [] := by
  unfold getL
  rw [List.find?_eq_none.mpr fun x hx => by simpa using h x hx]
namespace Tr
theorem osorted : ∀ (t : Option Tr), ook t → (oitems t).Pairwise Lt
  | none, _ => by simp [oitems]
  | some t, h => t.sorted h
theorem find_other {k : Key} {t : Tr} (h : t.ok) (hf : (t.find k).1 ≠ k) : ∀ x, x ∈ t.items → x.1 ≠ k := fun x hx e => by
  subst e
  exact hf (by rw [find_self t h x hx])
theorem get_yes {k : Key} {t : Tr} (h : t.ok) (hf : (t.find k).1 = k) : getL k t.items = (t.find k).2 :=
  getL_mem (t.sorted h) (by have := t.find_mem k; rwa [show t.find k = (k, (t.find k).2) from Prod.ext hf rfl] at this)
theorem get_no {k : Key} {t : Tr} (h : t.ok) (hf : (t.find k).1 ≠ k) : getL k t.items = [] := getL_none (find_other h hf)
theorem put_del {k : Key} {t : Tr} (h : t.ok) (hf : (t.find k).1 = k) : ook (t.del k) ∧ oitems (t.del k) = putL k [] t.items := by
  obtain ⟨a, b⟩ := del_spec k t h hf
  obtain ⟨c, d⟩ := putL_spec k [] t.items (t.sorted h)
  exact ⟨a, sorted_ext (osorted _ a) c fun x => by rw [b, d]; simp⟩
theorem put_skip {k : Key} {t : Tr} (h : t.ok) (hf : (t.find k).1 ≠ k) : t.items = putL k [] t.items := by
  obtain ⟨c, d⟩ := putL_spec k [] t.items (t.sorted h)
  refine sorted_ext (t.sorted h) c fun x => ?_
  rw [d]
  simp only [ne_eq, not_true_eq_false, false_and, false_or]
  exact ⟨fun hx => ⟨hx, find_other h hf x hx⟩, fun hx => hx.1⟩
theorem put_upd {k v : Key} {t : Tr} (h : t.ok) (hv : v ≠ []) (hf : (t.find k).1 = k) : (t.upd k v).ok ∧ (t.upd k v).items = putL k v t.items := by
  obtain ⟨a, b, _⟩ := upd_spec k v t h hf
  obtain ⟨c, d⟩ := putL_spec k v t.items (t.sorted h)
  exact ⟨a, sorted_ext (sorted _ a) c fun x => by rw [b, d]; simp [hv]⟩
theorem put_ins {k v : Key} {t : Tr} {p : Nat} (h : t.ok) (hv : v ≠ []) (h1 : Agree k (t.find k).1 p) (h2 : bitB k p ≠ bitB (t.find k).1 p) : (t.ins k v p).ok ∧ (t.ins k v p).items = putL k v t.items := by
  obtain ⟨a, b⟩ := ins_spec k v p t h h1 h2
  obtain ⟨c, d⟩ := putL_spec k v t.items (t.sorted h)
  have hf : (t.find k).1 ≠ k := fun e => h2 (by rw [e])
  refine ⟨a, sorted_ext (sorted _ a) c fun x => ?_⟩
  rw [b, d]
  constructor
  · rintro (e | e)
    · exact .inl ⟨hv, e⟩
    · exact .inr ⟨e, find_other h hf x e⟩
  · rintro (⟨_, e⟩ | ⟨e, _⟩)
    · exact .inl e
    · exact .inr e
end Tr
theorem putL_nil_nil (k : Key) : putL k [] [] = [] := rfl
theorem putL_nil {k v : Key} (hv : v ≠ []) : putL k v [] = [(k, v)] := by
  unfold putL
  have : v.isEmpty = false := by cases v with | nil => exact absurd rfl hv | cons _ _ => rfl
  rw [this]; rfl
theorem putL_all {P : Ent → Prop} {k v : Key} {l : List Ent} (hs : l.Pairwise Lt) (h : v ≠ [] → P (k, v)) (hl : ∀ x, x ∈ l → P x) : ∀ x, x ∈ putL k v l → P x := fun x hx => by
  rcases ((putL_spec k v l hs).2 x).mp hx with ⟨a, e⟩ | ⟨a, _⟩
  · rw [e]; exact h a
  · exact hl x a
theorem putL_len {k v : Key} : ∀ (l : List Ent), (putL k v l).length ≤ l.length + 1 := by
  intro l
  unfold putL
  have ht : ∀ l, (putF k v true l).length ≤ l.length := fun l => by rw [putT_eq]; exact List.length_filter_le ..
  have hf : ∀ l, (putF k v false l).length ≤ l.length + 1 := by
    intro l
    induction l with
    | nil => simp [putF]
    | cons y l ih =>
      have := ht l
      rw [putF]
      split
      · split <;> simp <;> omega
      · split <;> simp <;> omega
  cases v.isEmpty
  · exact hf l
  · have := ht l; omega
end Go.Proofs.Ytjjkdmngmopjbaa
