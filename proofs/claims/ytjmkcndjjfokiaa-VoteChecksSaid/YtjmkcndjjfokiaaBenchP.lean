/- Plain facts: what Choose gives is a bench that may be. No program in sight (but for the names of what the walks compute). -/
import Derived.Test.YtjmkcndjjfokiaaBench3
namespace Go.Proofs.Ytjmkcndjjfokiaa
theorem leftTo_sub (l : List Seat) (k : Nat) : ∀ x ∈ leftTo l k, x ∈ l.take k ∧ seatOk x = true := by
  induction k with
  | zero => intro x hx; simp [leftTo] at hx
  | succ k ih =>
    intro x hx
    have hs : ∀ y, y ∈ l.take k → y ∈ l.take (k + 1) := fun y hy => by
      obtain ⟨i, hi, e⟩ := List.getElem_of_mem hy
      simp at hi
      simp at e
      rw [List.mem_take_iff_getElem]
      exact ⟨i, by omega, e⟩
    unfold leftTo at hx
    split at hx
    · exact ⟨hs x (ih x hx).1, (ih x hx).2⟩
    · rename_i s hk
      split at hx
      · rename_i hc
        simp only [List.mem_append, List.mem_singleton] at hx
        rcases hx with hx | rfl
        · exact ⟨hs x (ih x hx).1, (ih x hx).2⟩
        · simp only [Bool.and_eq_true] at hc
          obtain ⟨hl, e⟩ := List.getElem?_eq_some_iff.1 hk
          refine ⟨?_, hc.2⟩
          rw [List.mem_take_iff_getElem]
          exact ⟨k, by omega, e⟩
      · exact ⟨hs x (ih x hx).1, (ih x hx).2⟩
theorem leftTo_distinct (l : List Seat) (k : Nat) : (leftTo l k).Pairwise (fun a b => a.who ≠ b.who) := by
  induction k with
  | zero => simp [leftTo]
  | succ k ih =>
    unfold leftTo
    split
    · exact ih
    · rename_i s hk
      split
      · rename_i hc
        rw [List.pairwise_append]
        refine ⟨ih, by simp, fun a ha b hb => ?_⟩
        simp at hb
        subst hb
        simp only [Bool.and_eq_true, firstOf, List.all_eq_true] at hc
        have := hc.1 a (leftTo_sub l k a ha).1
        simpa using this
      · exact ih
theorem insertS_eq (l : List Seat) (s : Seat) : insertS l s = l.takeWhile (fun x => decide (x.who < s.who)) ++ s :: l.dropWhile (fun x => decide (x.who < s.who)) := by
  have h1 : l.take (place l s) = l.takeWhile (fun x => decide (x.who < s.who)) := by
    unfold place
    induction l with
    | nil => rfl
    | cons x l ih => by_cases h : x.who < s.who <;> simp [h]; exact ih
  have h2 : l.drop (place l s) = l.dropWhile (fun x => decide (x.who < s.who)) := by
    clear h1
    unfold place
    induction l with
    | nil => rfl
    | cons x l ih => by_cases h : x.who < s.who <;> simp [h]; exact ih
  unfold insertS
  rw [h1, h2]
theorem insertS_mem (l : List Seat) (s x : Seat) : x ∈ insertS l s ↔ x = s ∨ x ∈ l := by
  unfold insertS
  have := List.take_append_drop (place l s) l
  constructor
  · intro h
    simp only [List.mem_append, List.mem_cons] at h
    rcases h with h | h | h
    · exact .inr (List.mem_of_mem_take h)
    · exact .inl h
    · exact .inr (List.mem_of_mem_drop h)
  · intro h
    simp only [List.mem_append, List.mem_cons]
    rcases h with h | h
    · exact .inr (.inl h)
    · rw [← this] at h
      rcases List.mem_append.1 h with h | h
      · exact .inl h
      · exact .inr (.inr h)
def Sorted (l : List Seat) : Prop := l.Pairwise (fun a b => a.who < b.who)
theorem takeWhile_lt (l : List Seat) (s : Seat) : ∀ x ∈ l.takeWhile (fun x => decide (x.who < s.who)), x.who < s.who := by
  induction l with
  | nil => simp
  | cons y l ih =>
    intro x hx
    by_cases h : y.who < s.who
    · simp [h] at hx
      rcases hx with rfl | hx
      · exact h
      · exact ih x hx
    · simp [h] at hx
theorem dropWhile_gt (l : List Seat) (s : Seat) (hl : Sorted l) (hne : ∀ x ∈ l, x.who ≠ s.who) : ∀ x ∈ l.dropWhile (fun x => decide (x.who < s.who)), s.who < x.who := by
  induction l with
  | nil => simp
  | cons y l ih =>
    intro x hx
    have hl' := List.pairwise_cons.1 hl
    by_cases h : y.who < s.who
    · simp [h] at hx
      exact ih hl'.2 (fun x hx => hne x (by simp [hx])) x hx
    · simp [h] at hx
      have hy := hne y (by simp)
      rcases hx with rfl | hx
      · omega
      · have := hl'.1 x hx
        omega
theorem insertS_sorted (l : List Seat) (s : Seat) (hl : Sorted l) (hne : ∀ x ∈ l, x.who ≠ s.who) : Sorted (insertS l s) := by
  rw [insertS_eq]
  have hs : Sorted (l.dropWhile (fun x => decide (x.who < s.who))) := List.Pairwise.sublist (List.dropWhile_sublist _) hl
  have ht : Sorted (l.takeWhile (fun x => decide (x.who < s.who))) := List.Pairwise.sublist (List.takeWhile_sublist _) hl
  unfold Sorted
  rw [List.pairwise_append]
  refine ⟨ht, List.pairwise_cons.2 ⟨dropWhile_gt l s hl hne, hs⟩, fun a ha b hb => ?_⟩
  have h1 := takeWhile_lt l s a ha
  simp only [List.mem_cons] at hb
  rcases hb with rfl | hb
  · exact h1
  · have := dropWhile_gt l s hl hne b hb
    omega
theorem chooseLoop_ok : ∀ (f : Nat) (out left : List Seat), Sorted out → left.Pairwise (fun a b => a.who ≠ b.who) → (∀ a ∈ out, ∀ b ∈ left, a.who ≠ b.who) → out.length ≤ 7 →
    Sorted (chooseLoop f out left) ∧ (chooseLoop f out left).length ≤ 7 ∧ (∀ x ∈ chooseLoop f out left, x ∈ out ∨ x ∈ left) ∧ (∀ x ∈ out, x ∈ chooseLoop f out left) := by
  intro f
  induction f with
  | zero => intro out left h1 _ _ h4; exact ⟨h1, h4, fun x hx => .inl hx, fun x hx => hx⟩
  | succ f ih =>
    intro out left h1 h2 h3 h4
    unfold chooseLoop
    split
    · exact ⟨h1, h4, fun x hx => .inl hx, fun x hx => hx⟩
    · rename_i s hs
      split
      · rename_i h7
        obtain ⟨hl, e⟩ := List.getElem?_eq_some_iff.1 hs
        have hm : s ∈ left := e ▸ List.getElem_mem hl
        have hsub := List.eraseIdx_sublist left (bestTo left left.length)
        have hne : ∀ x ∈ left.eraseIdx (bestTo left left.length), s.who ≠ x.who := by
          intro x hx
          rw [List.mem_eraseIdx_iff_getElem] at hx
          obtain ⟨i, hi, hne, rfl⟩ := hx
          rw [← e]
          rw [List.pairwise_iff_getElem] at h2
          rcases Nat.lt_or_gt_of_ne hne with hlt | hlt
          · exact (h2 i _ hi hl hlt).symm
          · exact h2 _ i hl hi hlt
        obtain ⟨g1, g2, g3, g4⟩ := ih (insertS out s) (left.eraseIdx (bestTo left left.length)) (insertS_sorted out s h1 (fun x hx => h3 x hx s hm)) (List.Pairwise.sublist hsub h2)
          (fun a ha b hb => by
            rcases (insertS_mem out s a).1 ha with rfl | ha
            · exact hne b hb
            · exact h3 a ha b (hsub.mem hb)) (by rw [insertS_length]; omega)
        refine ⟨g1, g2, fun x hx => ?_, fun x hx => g4 x ((insertS_mem out s x).2 (.inr hx))⟩
        rcases g3 x hx with hx | hx
        · rcases (insertS_mem out s x).1 hx with rfl | hx
          · exact .inr hm
          · exact .inl hx
        · exact .inr (hsub.mem hx)
      · exact ⟨h1, h4, fun x hx => .inl hx, fun x hx => hx⟩
/-- a bench of the laws' -/
structure Bench (x : List Seat) : Prop where
  sorted : Sorted x
  pos : 1 ≤ x.length
  most : x.length ≤ 7
  who : ∀ s ∈ x, 1 ≤ s.who ∧ s.who ≤ 12
  weight : ∀ s ∈ x, 1 ≤ s.weight ∧ s.weight ≤ 40
theorem chooseS_ok (l : List Seat) : Sorted (chooseS l) ∧ (chooseS l).length ≤ 7 ∧ ∀ x ∈ chooseS l, x ∈ l ∧ seatOk x = true := by
  obtain ⟨h1, h2, h3, _⟩ := chooseLoop_ok (leftTo l l.length).length [] (leftTo l l.length) (by simp [Sorted]) (leftTo_distinct l _) (by simp) (by simp)
  refine ⟨h1, h2, fun x hx => ?_⟩
  rcases h3 x hx with h | h
  · simp at h
  · have := leftTo_sub l l.length x h
    exact ⟨List.mem_of_mem_take this.1, this.2⟩
theorem seatedS_ok (l : List Seat) : Bench (seatedS l) := by
  have h := chooseS_ok (rawBench l)
  have hr : ∀ x ∈ rawBench l, (1 ≤ x.who ∧ x.who ≤ 12) ∧ 1 ≤ x.weight ∧ x.weight ≤ 40 := by
    intro x hx
    simp only [rawBench, List.mem_map] at hx
    obtain ⟨s, _, rfl⟩ := hx
    have p0 := pickS_lo s.who 12 (by omega)
    have p1 := pickS_hi s.who 12 (by omega)
    have p2 := pickS_lo s.weight 40 (by omega)
    have p3 := pickS_hi s.weight 40 (by omega)
    simp only [rawSeat]
    omega
  unfold seatedS
  rcases hc : chooseS (rawBench l) with _ | ⟨x, r⟩
  · exact ⟨by simp [Sorted], by simp, by simp, by simp, by simp⟩
  · rw [hc] at h
    exact ⟨h.1, by simp, h.2.1, fun s hs => (hr s (h.2.2 s hs).1).1, fun s hs => (hr s (h.2.2 s hs).1).2⟩
end Go.Proofs.Ytjmkcndjjfokiaa
namespace Go.Proofs.Ytjmkcndjjfokiaa
open Go.RowKit
/-! ### sums without wraps -/
def tsum : List Seat → Int
  | [] => 0
  | s :: l => s.weight + tsum l
def wsum (named : List Int) : List Seat → Int
  | [] => 0
  | s :: l => (if s.who ∈ named then s.weight else 0) + wsum named l
theorem tsum_bd (l : List Seat) (h : ∀ s ∈ l, 1 ≤ s.weight ∧ s.weight ≤ 40) : (l.length : Int) ≤ tsum l ∧ tsum l ≤ 40 * (l.length : Int) := by
  induction l with
  | nil => simp [tsum]
  | cons s l ih =>
    have h1 := h s (by simp)
    have h2 := ih fun x hx => h x (by simp [hx])
    simp only [tsum, List.length_cons]
    omega
theorem wsum_bd (named : List Int) (l : List Seat) (h : ∀ s ∈ l, 1 ≤ s.weight ∧ s.weight ≤ 40) : 0 ≤ wsum named l ∧ wsum named l ≤ tsum l := by
  induction l with
  | nil => simp [tsum, wsum]
  | cons s l ih =>
    have h1 := h s (by simp)
    have h2 := ih fun x hx => h x (by simp [hx])
    simp only [tsum, wsum]
    split <;> omega
theorem total_fold (l : List Seat) (h : ∀ s ∈ l, 1 ≤ s.weight ∧ s.weight ≤ 40) (acc : Int) (h0 : 0 ≤ acc) (h1 : acc + 40 * (l.length : Int) ≤ 1000000) : l.foldl (fun a s => wrap64 (a + s.weight)) acc = acc + tsum l := by
  induction l generalizing acc with
  | nil => simp [tsum]
  | cons s l ih =>
    have hs := h s (by simp)
    simp only [List.length_cons] at h1
    simp only [List.foldl_cons, tsum]
    rw [IntWalk.wrap64_in _ (by omega), ih (fun x hx => h x (by simp [hx])) _ (by omega) (by omega)]
    omega
theorem weightOf_fold (named : List Int) (l : List Seat) (h : ∀ s ∈ l, 1 ≤ s.weight ∧ s.weight ≤ 40) (acc : Int) (h0 : 0 ≤ acc) (h1 : acc + 40 * (l.length : Int) ≤ 1000000) : l.foldl (fun a s => if s.who ∈ named then wrap64 (a + s.weight) else a) acc = acc + wsum named l := by
  induction l generalizing acc with
  | nil => simp [wsum]
  | cons s l ih =>
    have hs := h s (by simp)
    simp only [List.length_cons] at h1
    simp only [List.foldl_cons, wsum]
    split
    · rw [IntWalk.wrap64_in _ (by omega), ih (fun x hx => h x (by simp [hx])) _ (by omega) (by omega)]
      omega
    · rw [ih (fun x hx => h x (by simp [hx])) _ (by omega) (by omega)]
      omega
theorem Bench.total {x : List Seat} (h : Bench x) : total x = tsum x ∧ 1 ≤ tsum x ∧ tsum x ≤ 280 := by
  have h1 := tsum_bd x h.weight
  have h2 := h.pos
  have h3 := h.most
  refine ⟨?_, by omega, by omega⟩
  unfold Go.Proofs.Ytjmkcndjjfokiaa.total
  rw [total_fold x h.weight 0 (by omega) (by omega)]
  omega
theorem Bench.weightOf {x : List Seat} (h : Bench x) (named : List Int) : weightOf x named = wsum named x ∧ 0 ≤ wsum named x ∧ wsum named x ≤ tsum x := by
  have h2 := h.pos
  have h3 := h.most
  refine ⟨?_, wsum_bd named x h.weight⟩
  unfold Go.Proofs.Ytjmkcndjjfokiaa.weightOf
  rw [weightOf_fold named x h.weight 0 (by omega) (by omega)]
  omega
theorem wsum_all (named : List Int) (l : List Seat) (h : ∀ s ∈ l, s.who ∈ named) : wsum named l = tsum l := by
  induction l with
  | nil => rfl
  | cons s l ih => simp only [wsum, tsum, h s (by simp), if_true, ih fun x hx => h x (by simp [hx])]
theorem wsum_nil (l : List Seat) : wsum [] l = 0 := by
  induction l with
  | nil => rfl
  | cons s l ih => simp [wsum, ih]
theorem wsum_meet (a b : List Int) (l : List Seat) (h : ∀ s ∈ l, 1 ≤ s.weight ∧ s.weight ≤ 40) : wsum a l + wsum b l ≤ tsum l + wsum (a.filter fun x => decide (x ∈ b)) l := by
  induction l with
  | nil => simp [wsum, tsum]
  | cons s l ih =>
    have h1 := h s (by simp)
    have h2 := ih fun x hx => h x (by simp [hx])
    simp only [wsum, tsum, List.mem_filter, decide_eq_true_eq]
    by_cases ha : s.who ∈ a <;> by_cases hb : s.who ∈ b <;> simp [ha, hb] <;> omega
/-- what Quorum and Some answer of a bench -/
def quorumB (x : List Seat) (named : List Int) : Bool := decide (wrap64 (2 * total x) < wrap64 (3 * weightOf x named))
def someB (x : List Seat) (named : List Int) : Bool := decide (total x < wrap64 (3 * weightOf x named))
theorem quorumB_eq {x : List Seat} (h : Bench x) (named : List Int) : quorumB x named = decide (2 * tsum x < 3 * wsum named x) := by
  have h1 := h.total
  have h2 := h.weightOf named
  unfold quorumB
  rw [h1.1, h2.1, IntWalk.wrap64_in _ (by omega), IntWalk.wrap64_in _ (by omega)]
theorem someB_eq {x : List Seat} (h : Bench x) (named : List Int) : someB x named = decide (tsum x < 3 * wsum named x) := by
  have h1 := h.total
  have h2 := h.weightOf named
  unfold someB
  rw [h1.1, h2.1, IntWalk.wrap64_in _ (by omega)]
theorem quorum_whole {x : List Seat} (h : Bench x) : quorumB x (x.map (·.who)) = true := by
  rw [quorumB_eq h, wsum_all _ _ (fun s hs => List.mem_map.2 ⟨s, hs, rfl⟩)]
  have := h.total
  simp; omega
theorem quorum_none {x : List Seat} (h : Bench x) : quorumB x [] = false := by
  rw [quorumB_eq h, wsum_nil]
  have := h.total
  simp; omega
theorem quorum_meet {x : List Seat} (h : Bench x) (a b : List Int) (ha : quorumB x a = true) (hb : quorumB x b = true) : someB x (a.filter fun x => decide (x ∈ b)) = true := by
  rw [quorumB_eq h] at ha hb
  rw [someB_eq h]
  have := wsum_meet a b x h.weight
  simp at ha hb ⊢
  omega
end Go.Proofs.Ytjmkcndjjfokiaa
