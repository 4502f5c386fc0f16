/- Arguments as they are read as data, opened into plain things, with how much there is of them ('bulk'). -/
import Derived.Test.YtjjkdmngmopjbaaProg
import Derived.Test.YtjjkdmngmopjbaaRows
import Derived.Test.YtjjkdmngmopjbaaNodT
import Derived.Test.YtjjkdmngmopjbaaWrT
namespace Go.Proofs.Ytjjkdmngmopjbaa
open Go.ChangeShapes Go.WideShapes Go.ChangeAt Go.RowKit Go.Deep
theorem bulk_one {H : Type} (d : DataW H) : 1 ≤ Rows.uptoBulk d := by
  cases d with
  | lit l => cases l <;> simp [Rows.uptoBulk]
  | nil => simp [Rows.uptoBulk]
  | ptr d => simp [Rows.uptoBulk]
  | slice elems spare => simp [Rows.uptoBulk]
  | agg parts => simp [Rows.uptoBulk]
  | iface t d => simp [Rows.uptoBulk]
  | map entries => simp [Rows.uptoBulk]
  | held h => simp [Rows.uptoBulk]
theorem bulk_le {H α : Type} (ma : α → Nat) : ∀ (l : List α) (ds : List (DataW H)), l.length = ds.length → (∀ i (h : i < l.length) (h' : i < ds.length), ma l[i] ≤ Rows.uptoBulk ds[i]) → sumL ma l ≤ Rows.uptoBulkAll ds
  | [], [], _, _ => by simp [sumL, Rows.uptoBulkAll]
  | [], _ :: _, h, _ => by simp at h
  | _ :: _, [], h, _ => by simp at h
  | x :: l, d :: ds, h, hi => by
    rw [sumL_cons, Rows.uptoBulkAll]
    have h0 := hi 0 (by simp) (by simp)
    have h1 := bulk_le ma l ds (by simpa using h) fun i a b => by have := hi (i + 1) (by simp; omega) (by simp; omega); simpa only [List.getElem_cons_succ] using this
    simp at h0
    omega
theorem sumL_mono {α : Type} (f g : α → Nat) (h : ∀ x, f x ≤ g x) (l : List α) : sumL f l ≤ sumL g l := by
  induction l with
  | nil => simp [sumL]
  | cons x l ih => rw [sumL_cons, sumL_cons]; have := h x; omega
theorem sumL_mul {α : Type} (c : Nat) (f g : α → Nat) (h : ∀ x, f x ≤ c * g x) (l : List α) : sumL f l ≤ c * sumL g l := by
  induction l with
  | nil => simp [sumL]
  | cons x l ih => rw [sumL_cons, sumL_cons, Nat.mul_add]; have := h x; omega
theorem sumL_len {α : Type} (f : α → Nat) (h : ∀ x, 1 ≤ f x) (l : List α) : l.length ≤ sumL f l := by
  induction l with
  | nil => simp [sumL]
  | cons x l ih => rw [sumL_cons, List.length_cons]; have := h x; omega
section
variable {H : Type} {enc : TypeId × Value → H} {P : Program} {W : World}
theorem slOf_of_trodB {α : Type} (ma : α → Nat) {t e : TypeId} {size : Nat} {R : List Value → α → Prop} (ht : P.underlying t = some (.slice e)) (hsz : P.cellsOf e = size) (hpos : 0 < size)
    (hel : ∀ fuel cs x, DataW.trod enc P W 0 (fun _ => true) true fuel e cs = some x → ∃ a, R cs a ∧ ma a ≤ Rows.uptoBulk x.1) :
    ∀ fuel cs x, DataW.trod enc P W 0 (fun _ => true) true fuel t cs = some x → ∃ l, SlOf size R W cs l ∧ sumL ma l + 1 ≤ Rows.uptoBulk x.1 := by
  intro fuel cs x h
  rcases open_slice ht h with ⟨rfl, _⟩ | ⟨a, len, cap, m, n, D, Pl, rfl, _, hlc, hcm, hm, rfl, hi⟩
  · exact ⟨[], ⟨none, 0, rfl, by simp, by simp, [], rfl, fun i h => absurd h (by simp), Rd.nil _ _ _ _⟩, by have := bulk_one x.1; simpa [sumL] using this⟩
  · simp only [if_true] at hm
    subst hm
    have hel' : ∀ i, i < len → ∃ y : List Value × α, y.1.length = size ∧ R y.1 y.2 ∧ (∀ j, j < size → W.cell? ((a.add (i * size)).add j) = y.1[j]?) ∧ ma y.2 ≤ Rows.uptoBulk (D i) := by
      intro i hil
      obtain ⟨cs', hc, ht'⟩ := hi i (by omega)
      obtain ⟨z, hz, hb⟩ := hel _ _ _ ht'
      rw [hsz] at hc
      obtain ⟨_, hcl, hat⟩ := World.cells?_some hc
      exact ⟨(cs', z), hcl, hz, hat, hb⟩
    obtain ⟨L, hL, hp⟩ := choose_list _ len hel'
    refine ⟨L.map (·.2), ⟨some a, m, by rw [List.length_map, hL], by rw [List.length_map, hL]; exact hlc, hcm, L.map (·.1), by simp, ?_, ?_⟩, ?_⟩
    · intro i h1 h2
      simp only [List.getElem_map]
      have := hp i (by simpa using h1)
      exact ⟨this.1, this.2.1⟩
    · have hall : ∀ x ∈ L.map (·.1), x.length = size := by
        intro x hx
        obtain ⟨i, hi', rfl⟩ := List.getElem_of_mem hx
        simp only [List.getElem_map]
        exact (hp i (by simpa using hi')).1
      have hfl := flatten_length size _ hall
      refine ⟨by rw [hfl]; simp, fun hn => ?_⟩
      simp only [List.length_map] at hn
      -- the address is plain
      have h0 := hp 0 hn
      have hc0 := h0.2.2.1 0 hpos
      have hx0 : (L[0].1)[0]? = some ((L[0].1)[0]'(by rw [h0.1]; exact hpos)) := List.getElem?_eq_getElem _
      rw [hx0] at hc0
      have e0 : (a.add (0 * size)).add 0 = a := by simp [Addr.add]
      rw [e0] at hc0
      have hsp := World.cell?_spot hc0
      have hlt := World.block_lt_of_cell? W a hc0
      obtain ⟨b, off, spot⟩ := a
      simp only at hsp
      subst hsp
      refine ⟨b, off, rfl, hlt, fun j u hu => ?_⟩
      have hjl : j < (L.map (·.1)).flatten.length := (List.getElem?_eq_some_iff.1 hu).1
      rw [hfl, List.length_map] at hjl
      have hj : j = j / size * size + j % size := by rw [Nat.mul_comm]; exact (Nat.div_add_mod j size).symm
      have hk : j / size < L.length := by rw [Nat.div_lt_iff_lt_mul hpos]; exact hjl
      have hr : j % size < size := Nat.mod_lt _ hpos
      have hz := (hp _ hk).2.2.1 _ hr
      rw [hj, flatten_at size _ hall _ _ hr] at hu
      rw [List.getElem?_map, List.getElem?_eq_getElem hk] at hu
      simp only [Option.map_some, Option.bind_some] at hu
      rw [hu] at hz
      rw [← hz]
      congr 1
      show (⟨b, off + j, none⟩ : Addr) = ((⟨b, off, none⟩ : Addr).add (j / size * size)).add (j % size)
      rw [addp, addp, Nat.add_assoc, ← hj]
    · have h1 : sumL ma (L.map (·.2)) ≤ Rows.uptoBulkAll ((List.range len).map D) := by
        refine bulk_le ma _ _ (by simp [hL]) fun i hi hj => ?_
        simp only [List.getElem_map, List.getElem_range]
        exact (hp i (by simpa using hi)).2.2.2
      simp only [Rows.uptoBulk]
      omega
theorem open_structB {fuel : Nat} {t : TypeId} {fs : Array Field} {cs : List Value} {x : DataW H × List MemPlace} (hs : P.underlying t = some (.struct fs)) (h : DataW.trod enc P W 0 (fun _ => true) true fuel t cs = some x) :
    cs.length = P.cellsOf t ∧ ∃ (n : Nat) (xs : List (DataW H × List MemPlace)), x.1 = .agg (xs.map (·.1)) ∧ xs.length = fs.size ∧ ∀ (j : Nat) (f : Field), fs[j]? = some f → DataW.trod enc P W 0 (fun _ => true) true n f.type ((cs.drop f.offset).take (P.cellsOf f.type)) = xs[j]? := by
  obtain ⟨xs, n, _, hx, hlen, hyl, hg⟩ := DataW.trod_struct hs h
  exact ⟨hlen, n, xs, by rw [hx], hyl, hg⟩
end
section
variable {H : Type} {enc : TypeId × Value → H} {W : World}
set_option maxRecDepth 100000 in
theorem int_trodB : ∀ fuel cs x, DataW.trod enc Try.prog W 0 (fun _ => true) true fuel 3 cs = some x → ∃ n, IsInt cs n ∧ 1 ≤ Rows.uptoBulk x.1 := by
  intro fuel cs x h
  obtain ⟨n, hn⟩ := int_trod _ _ _ h
  exact ⟨n, hn, bulk_one _⟩
set_option maxRecDepth 100000 in
theorem errno_trodB : ∀ fuel cs x, DataW.trod enc Try.prog W 0 (fun _ => true) true fuel 44 cs = some x → ∃ n, IsInt cs n ∧ 1 ≤ Rows.uptoBulk x.1 := by
  intro fuel cs x h
  obtain ⟨n, rfl, _, hw⟩ := DataW.trod_int Try.underlying44 h
  exact ⟨n, ⟨rfl, wf_i64 hw⟩, bulk_one _⟩
set_option maxRecDepth 100000 in
theorem dig_trodB : ∀ fuel cs x, DataW.trod enc Try.prog W 0 (fun _ => true) true fuel 23 cs = some x → ∃ n, IsDig cs n ∧ 1 ≤ Rows.uptoBulk x.1 := by
  intro fuel cs x h
  obtain ⟨n, hn⟩ := dig_trod _ _ _ h
  exact ⟨n, hn, bulk_one _⟩
def IsBool (cs : List Value) (b : Bool) : Prop := cs = [.bool b] ∧ True
set_option maxRecDepth 100000 in
theorem bool_trodB : ∀ fuel cs x, DataW.trod enc Try.prog W 0 (fun _ => true) true fuel 4 cs = some x → ∃ b, IsBool cs b ∧ 1 ≤ Rows.uptoBulk x.1 := by
  intro fuel cs x h
  obtain ⟨b, rfl, _⟩ := DataW.trod_bool Try.underlying4 h
  exact ⟨b, ⟨rfl, trivial⟩, bulk_one _⟩
set_option maxRecDepth 100000 in
theorem str_trodB : ∀ fuel cs x, DataW.trod enc Try.prog W 0 (fun _ => true) true fuel 9 cs = some x → ∃ s, IsStr cs s ∧ s.length + 1 ≤ Rows.uptoBulk x.1 := by
  intro fuel cs x h
  obtain ⟨s, rfl, rfl, hw⟩ := DataW.trod_string Try.underlying9 h
  exact ⟨s.data.toList, ⟨rfl, hw⟩, by simp [Rows.uptoBulk]⟩
end
end Go.Proofs.Ytjjkdmngmopjbaa
