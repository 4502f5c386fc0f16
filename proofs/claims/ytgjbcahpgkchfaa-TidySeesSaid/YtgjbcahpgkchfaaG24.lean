/- Of the texts Open. -/
import Derived.Test.YtgjbcahpgkchfaaG03
import Derived.Test.YtgjbcahpgkchfaaG06
import Derived.Deep.Slices
import Derived.Deep.Fields
import Derived.ChangeSame
set_option linter.unusedSimpArgs false
set_option linter.unusedVariables false
namespace Go.Proofs.Ytgjbcahpgkchfaa
open Go.ChangeShapes Go.WideShapes Go.ChangeAt Go.RowKit Go.Deep
theorem choose_list {α : Type} (p : Nat → α → Prop) : ∀ n, (∀ i, i < n → ∃ x, p i x) → ∃ l : List α, l.length = n ∧ ∀ i (h : i < l.length), p i l[i]
 | 0, _ => ⟨[], rfl, fun i h => absurd h (by simp)⟩
 | n + 1, h => by
  obtain ⟨l, hl, hp⟩ := choose_list p n fun i hi => h i (by omega)
  obtain ⟨x, hx⟩ := h n (by omega); refine ⟨l ++ [x], by simp [hl], fun i hi => ?_⟩
  by_cases hil : i < l.length
  ·rw [List.getElem_append_left hil]; exact hp i hil
  ·have : i = n := by simp at hi; omega
   subst this; rw [List.getElem_append_right (by omega)]; simpa [hl] using hx
theorem addp (b o k : Nat) : (⟨b, o, none⟩ : Addr).add k = ⟨b, o + k, none⟩ := by unfold Addr.add; split <;> simp_all
def SlOf {α : Type} (size : Nat) (R : List Value → α → Prop) (W : World) (cs : List Value) (l : List α) : Prop :=
 ∃ A c, cs = [.slice A l.length c] ∧ l.length ≤ c ∧ c ≤ maxLen ∧ ∃ xss : List (List Value), xss.length = l.length ∧ (∀ i (h : i < xss.length) (h' : i < l.length), xss[i].length = size ∧ R xss[i] l[i]) ∧ Rd W W.heap.size size A l.length xss.flatten
theorem flatten_at (size : Nat) : ∀ (xss : List (List Value)) (_ : ∀ x ∈ xss, x.length = size) (k j : Nat) (_ : j < size), xss.flatten[k * size + j]? = (xss[k]?).bind fun x => x[j]?
 | [], _, k, j, _ => by simp
 | x :: l, hl, 0, j, hj => by
  simp only [List.flatten_cons, Nat.zero_mul, Nat.zero_add]; rw [List.getElem?_append_left (by rw [hl x (by simp)]; omega)]; simp
 | x :: l, hl, k + 1, j, hj => by
  have hx := hl x (by simp); simp only [List.flatten_cons]; rw [List.getElem?_append_right (by rw [hx, Nat.succ_mul]; omega), hx]; have e : (k + 1) * size + j - size = k * size + j := by rw [Nat.succ_mul]; omega
  rw [e, flatten_at size l (fun y hy => hl y (by simp [hy])) k j hj]; simp
theorem flatten_length (size : Nat) : ∀ (xss : List (List Value)) (_ : ∀ x ∈ xss, x.length = size), xss.flatten.length = xss.length * size
 | [], _ => by simp
 | x :: l, hl => by
  have := flatten_length size l fun y hy => hl y (by simp [hy])
  rw [List.flatten_cons, List.length_append, this, hl x (by simp), List.length_cons, Nat.succ_mul]; omega
section
variable {H : Type} {enc : TypeId × Value → H} {P : Program} {W : World}
theorem slOf_of_trod {α : Type} {t e : TypeId} {size : Nat} {R : List Value → α → Prop} (ht : P.underlying t = some (.slice e)) (hsz : P.cellsOf e = size) (hpos : 0 < size)
  (hel : ∀ fuel cs x, DataW.trod enc P W 0 (fun _ => true) true fuel e cs = some x → ∃ a, R cs a) :
  ∀ fuel cs x, DataW.trod enc P W 0 (fun _ => true) true fuel t cs = some x → ∃ l, SlOf size R W cs l := by
 intro fuel cs x h
 rcases open_slice ht h with ⟨rfl, _⟩ | ⟨a, len, cap, m, n, D, Pl, rfl, _, hlc, hcm, hm, _, hi⟩
 ·exact ⟨[], none, 0, rfl, by simp, by simp, [], rfl, fun i h => absurd h (by simp), Rd.nil _ _ _ _⟩
 ·simp only [if_true] at hm; subst hm; have hel' : ∀ i, i < len → ∃ y : List Value × α, y.1.length = size ∧ R y.1 y.2 ∧ ∀ j, j < size → W.cell? ((a.add (i * size)).add j) = y.1[j]? := by
   intro i hil; obtain ⟨cs', hc, ht'⟩ := hi i (by omega); obtain ⟨z, hz⟩ := hel _ _ _ ht'; rw [hsz] at hc; obtain ⟨_, hcl, hat⟩ := World.cells?_some hc; exact ⟨(cs', z), hcl, hz, hat⟩
  obtain ⟨L, hL, hp⟩ := choose_list _ len hel'; refine ⟨L.map (·.2), some a, m, by rw [List.length_map, hL], by rw [List.length_map, hL]; exact hlc, hcm, L.map (·.1), by simp, ?_, ?_⟩
  ·intro i h1 h2; simp only [List.getElem_map]; have := hp i (by simpa using h1); exact ⟨this.1, this.2.1⟩
  ·have hall : ∀ x ∈ L.map (·.1), x.length = size := by
    intro x hx; obtain ⟨i, hi', rfl⟩ := List.getElem_of_mem hx; simp only [List.getElem_map]; exact (hp i (by simpa using hi')).1
   have hfl := flatten_length size _ hall; refine ⟨by rw [hfl]; simp, fun hn => ?_⟩; simp only [List.length_map] at hn
   -- the address is plain
   have h0 := hp 0 hn; have hc0 := h0.2.2 0 hpos; have hx0 : (L[0].1)[0]? = some ((L[0].1)[0]'(by rw [h0.1]; exact hpos)) := List.getElem?_eq_getElem _; rw [hx0] at hc0; have e0 : (a.add (0 * size)).add 0 = a := by simp [Addr.add]
   rw [e0] at hc0; have hsp := World.cell?_spot hc0; have hlt := World.block_lt_of_cell? W a hc0; obtain ⟨b, off, spot⟩ := a; simp only at hsp; subst hsp; refine ⟨b, off, rfl, hlt, fun j u hu => ?_⟩; have hjl : j < (L.map (·.1)).flatten.length := (List.getElem?_eq_some_iff.1 hu).1; rw [hfl, List.length_map] at hjl; have hj : j = j / size * size + j % size := by rw [Nat.mul_comm]; exact (Nat.div_add_mod j size).symm
   have hk : j / size < L.length := by rw [Nat.div_lt_iff_lt_mul hpos]; exact hjl
   have hr : j % size < size := Nat.mod_lt _ hpos; have hz := (hp _ hk).2.2 _ hr; rw [hj, flatten_at size _ hall _ _ hr] at hu; rw [List.getElem?_map, List.getElem?_eq_getElem hk] at hu; simp only [Option.map_some, Option.bind_some] at hu; rw [hu] at hz; rw [← hz]
   congr 1
   show (⟨b, off + j, none⟩ : Addr) = ((⟨b, off, none⟩ : Addr).add (j / size * size)).add (j % size); rw [addp, addp, Nat.add_assoc, ← hj]
theorem open_struct {fuel : Nat} {t : TypeId} {fs : Array Field} {cs : List Value} {x : DataW H × List MemPlace} (hs : P.underlying t = some (.struct fs)) (h : DataW.trod enc P W 0 (fun _ => true) true fuel t cs = some x) :
  cs.length = P.cellsOf t ∧ ∃ n, ∀ (j : Nat) (f : Field), fs[j]? = some f → ∃ y, DataW.trod enc P W 0 (fun _ => true) true n f.type ((cs.drop f.offset).take (P.cellsOf f.type)) = some y := by
 obtain ⟨xs, n, _, _, hlen, hyl, hg⟩ := DataW.trod_struct hs h; refine ⟨hlen, n, fun j f hj => ?_⟩; have := hg j f hj; have hjl : j < xs.length := by rw [hyl]; exact (Array.getElem?_eq_some_iff.1 hj).1
 exact ⟨xs[j], this.trans (List.getElem?_eq_getElem hjl)⟩
end
theorem SlOf.flat {α : Type} {size : Nat} {R : List Value → α → Prop} {W : World} {cs : List Value} {l : List α} (h : SlOf size R W cs l) (f : α → List Value) (hf : ∀ cs x, R cs x → cs = f x) :
  ∃ A c, cs = [.slice A l.length c] ∧ l.length ≤ c ∧ c ≤ maxLen ∧ Rd W W.heap.size size A l.length (l.flatMap f) ∧ ∀ x ∈ l, ∃ cs, R cs x := by
 obtain ⟨A, c, e, h1, h2, xss, hx, hr, hd⟩ := h; refine ⟨A, c, e, h1, h2, ?_, ?_⟩
 ·have : xss = l.map f := by
   apply List.ext_getElem (by simp [hx]); intro i h3 h4; simp only [List.getElem_map]; exact hf _ _ (hr i h3 (by omega)).2
  rw [this] at hd
  rwa [List.flatMap_def]
 ·intro x hx'; obtain ⟨i, hi, rfl⟩ := List.getElem_of_mem hx'; exact ⟨_, (hr i (by omega) hi).2⟩
end Go.Proofs.Ytgjbcahpgkchfaa
