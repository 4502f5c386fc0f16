/- Who leads in a turn: the plain model: how often each has led, what each has gained; in as many turns as the weights together each leads as often as it weighs. -/
import Derived.Test.YtdgifhgiablgdaaBenchP
namespace Go.Proofs.Ytdgifhgiablgdaa
open Go.RowKit
/-- the first place among the first k at which f is greatest -/
def argTo (f : Nat → Int) : Nat → Nat
  | 0 => 0
  | k + 1 => if f (argTo f k) < f k then k else argTo f k
theorem argTo_lt (f : Nat → Int) (k : Nat) (h : 0 < k) : argTo f k < k := by
  induction k with
  | zero => omega
  | succ k ih =>
    unfold argTo
    split
    · omega
    · rcases Nat.eq_zero_or_pos k with rfl | hk
      · simp [argTo]
      · have := ih hk; omega
theorem argTo_max (f : Nat → Int) (k : Nat) : ∀ j, j < k → f j ≤ f (argTo f k) := by
  induction k with
  | zero => intro j hj; omega
  | succ k ih =>
    intro j hj
    unfold argTo
    by_cases h : j = k
    · subst h
      split <;> omega
    · have := ih j (by omega)
      split <;> omega
theorem argTo_congr (f g : Nat → Int) (k : Nat) (h : ∀ j, j < k → f j = g j) : argTo f k = argTo g k := by
  induction k with
  | zero => rfl
  | succ k ih =>
    have e := ih fun j hj => h j (by omega)
    unfold argTo
    rw [e]
    rcases Nat.eq_zero_or_pos k with rfl | hk
    · simp [argTo, h 0 (by omega)]
    · rw [h k (by omega), h _ (by have := argTo_lt g k hk; omega)]
def wt (l : List Seat) (j : Nat) : Int := (l.getD j ⟨0, 0⟩).weight
theorem wt_at (l : List Seat) (j : Nat) (h : j < l.length) : wt l j = l[j].weight := by simp [wt, List.getD, h]
def leaderOf (l : List Seat) (m : Nat) (L : Nat → Int) : Nat := argTo (fun j => ((m : Int) + 1) * wt l j - L j * tsum l) l.length
/-- how often each has led in the first m turns -/
def ledF (l : List Seat) : Nat → Nat → Int
  | 0 => fun _ => 0
  | m + 1 => fun j => ledF l m j + if j = leaderOf l m (ledF l m) then 1 else 0
/-- who leads in the turn m -/
def leader (l : List Seat) (m : Nat) : Nat := leaderOf l m (ledF l m)
theorem ledF_succ (l : List Seat) (m j : Nat) : ledF l (m + 1) j = ledF l m j + if j = leader l m then 1 else 0 := rfl
theorem leader_eq (l : List Seat) (m : Nat) : leader l m = argTo (fun j => ((m : Int) + 1) * wt l j - ledF l m j * tsum l) l.length := rfl
theorem leader_lt (l : List Seat) (m : Nat) (h : 0 < l.length) : leader l m < l.length := argTo_lt _ _ h
theorem ledF_bd (l : List Seat) (m j : Nat) : 0 ≤ ledF l m j ∧ ledF l m j ≤ m := by
  induction m with
  | zero => simp [ledF]
  | succ m ih => rw [ledF_succ]; split <;> omega
/-- what each has gained when m turns are over -/
def gain (l : List Seat) (m j : Nat) : Int := (m : Int) * wt l j - ledF l m j * tsum l
theorem gain_zero (l : List Seat) (j : Nat) : gain l 0 j = 0 := by simp [gain, ledF]
theorem gain_val (l : List Seat) (m j : Nat) : ((m : Int) + 1) * wt l j - ledF l m j * tsum l = gain l m j + wt l j := by
  unfold gain; rw [Int.add_mul]; omega
theorem gain_succ (l : List Seat) (m j : Nat) : gain l (m + 1) j = gain l m j + wt l j - if j = leader l m then tsum l else 0 := by
  unfold gain
  rw [ledF_succ]
  split
  · rw [Int.add_mul (ledF l m j) 1, Int.one_mul]
    have : ((m + 1 : Nat) : Int) * wt l j = (m : Int) * wt l j + wt l j := by rw [show ((m + 1 : Nat) : Int) = (m : Int) + 1 from rfl, Int.add_mul, Int.one_mul]
    omega
  · rw [Int.add_zero]
    have : ((m + 1 : Nat) : Int) * wt l j = (m : Int) * wt l j + wt l j := by rw [show ((m + 1 : Nat) : Int) = (m : Int) + 1 from rfl, Int.add_mul, Int.one_mul]
    omega
theorem leader_gain (l : List Seat) (m : Nat) : leader l m = argTo (fun j => gain l m j + wt l j) l.length := by
  rw [leader_eq]
  exact argTo_congr _ _ _ fun j _ => gain_val l m j
/-! ### sums -/
def sumTo (f : Nat → Int) : Nat → Int
  | 0 => 0
  | k + 1 => sumTo f k + f k
theorem sumTo_congr (f g : Nat → Int) (k : Nat) (h : ∀ j, j < k → f j = g j) : sumTo f k = sumTo g k := by
  induction k with
  | zero => rfl
  | succ k ih => unfold sumTo; rw [ih fun j hj => h j (by omega), h k (by omega)]
theorem sumTo_add (f g : Nat → Int) (k : Nat) : sumTo (fun j => f j + g j) k = sumTo f k + sumTo g k := by
  induction k with
  | zero => rfl
  | succ k ih => simp only [sumTo, ih]; omega
theorem sumTo_one (i : Nat) (c : Int) (k : Nat) : sumTo (fun j => if j = i then c else 0) k = if i < k then c else 0 := by
  induction k with
  | zero => simp [sumTo]
  | succ k ih =>
    simp only [sumTo, ih]
    by_cases h1 : i < k
    · rw [if_pos h1, if_neg (by omega), if_pos (by omega)]; omega
    · by_cases h2 : k = i
      · rw [if_neg h1, if_pos h2, if_pos (by omega)]; omega
      · rw [if_neg h1, if_neg h2, if_neg (by omega)]; omega
theorem sumTo_neg (f : Nat → Int) (k : Nat) : sumTo (fun j => - f j) k = - sumTo f k := by
  induction k with
  | zero => rfl
  | succ k ih => simp only [sumTo, ih]; omega
theorem sumTo_wt (l : List Seat) : sumTo (wt l) l.length = tsum l := by
  have key : ∀ (m : List Seat) (l : List Seat), sumTo (fun j => wt (m ++ l) (m.length + j)) l.length = tsum l := by
    intro m l
    induction l generalizing m with
    | nil => rfl
    | cons s l ih =>
      have hs : ∀ (f : Nat → Int) (k : Nat), sumTo f (k + 1) = f 0 + sumTo (fun j => f (j + 1)) k := by
        intro f k
        induction k with
        | zero => simp [sumTo]
        | succ k ih => rw [sumTo, ih, sumTo]; omega
      rw [List.length_cons, hs]
      have := ih (m ++ [s])
      simp only [List.append_assoc, List.singleton_append, List.length_append, List.length_singleton] at this
      have e : (fun j => wt (m ++ s :: l) (m.length + (j + 1))) = fun j => wt (m ++ s :: l) (m.length + 1 + j) := by
        funext j; congr 1; omega
      rw [e, this]
      simp [tsum, wt, List.getD]
  have := key [] l
  simpa using this
theorem sumTo_le (f : Nat → Int) (c : Int) (k : Nat) (h : ∀ j, j < k → f j ≤ c) : sumTo f k ≤ c * k := by
  induction k with
  | zero => simp [sumTo]
  | succ k ih =>
    have h1 := ih fun j hj => h j (by omega)
    have h2 := h k (by omega)
    simp only [sumTo]
    have : c * ((k + 1 : Nat) : Int) = c * k + c := by rw [show ((k + 1 : Nat) : Int) = (k : Int) + 1 from rfl, Int.mul_add, Int.mul_one]
    omega
theorem sumTo_zero (f : Nat → Int) (k : Nat) (h : ∀ j, j < k → 0 ≤ f j) (hs : sumTo f k = 0) : ∀ j, j < k → f j = 0 := by
  have hp : ∀ k, (∀ j, j < k → 0 ≤ f j) → 0 ≤ sumTo f k := by
    intro k
    induction k with
    | zero => intro _; simp [sumTo]
    | succ k ih => intro h; have := ih fun j hj => h j (by omega); have := h k (by omega); simp only [sumTo]; omega
  induction k with
  | zero => intro j hj; omega
  | succ k ih =>
    simp only [sumTo] at hs
    have h1 := hp k fun j hj => h j (by omega)
    have h2 := h k (by omega)
    intro j hj
    by_cases e : j = k
    · subst e; omega
    · exact ih (fun j hj => h j (by omega)) (by omega) j (by omega)
theorem gain_sum (l : List Seat) (hl : 0 < l.length) (m : Nat) : sumTo (gain l m) l.length = 0 := by
  induction m with
  | zero =>
    rw [sumTo_congr _ (fun _ => 0) _ (fun j _ => gain_zero l j)]
    generalize l.length = k
    induction k <;> simp_all [sumTo]
  | succ m ih =>
    have e : sumTo (gain l (m + 1)) l.length = sumTo (fun j => (gain l m j + wt l j) + (- if j = leader l m then tsum l else 0)) l.length :=
      sumTo_congr _ _ _ fun j _ => by rw [gain_succ]; omega
    rw [e, sumTo_add, sumTo_add (gain l m) (wt l), ih, sumTo_wt, sumTo_neg, sumTo_one, if_pos (leader_lt l m hl)]
    omega
theorem gain_low (l : List Seat) (hl : 0 < l.length) (hw : ∀ s ∈ l, 1 ≤ s.weight) (hT : 1 ≤ tsum l) (m : Nat) : ∀ j, j < l.length → 1 - tsum l ≤ gain l m j := by
  induction m with
  | zero => intro j _; rw [gain_zero]; omega
  | succ m ih =>
    intro j hj
    rw [gain_succ]
    have h1 := ih j hj
    have h2 : 1 ≤ wt l j := by rw [wt_at l j hj]; exact hw _ (List.getElem_mem hj)
    split
    · rename_i hL
      -- the leader's gain is at least 1
      have hmax := argTo_max (fun j => gain l m j + wt l j) l.length
      rw [← leader_gain, ← hL] at hmax
      have hs : sumTo (fun j => gain l m j + wt l j) l.length = tsum l := by rw [sumTo_add, gain_sum l hl, sumTo_wt]; omega
      rcases Int.lt_or_le 0 (gain l m j + wt l j) with h3 | h3
      · omega
      · have := sumTo_le (fun j => gain l m j + wt l j) 0 l.length fun i hi => by have := hmax i hi; omega
        omega
    · omega
theorem led_whole (l : List Seat) (hl : 0 < l.length) (hw : ∀ s ∈ l, 1 ≤ s.weight) (n : Nat) (hn : (n : Int) = tsum l) (h1 : 1 ≤ tsum l) : ∀ j, j < l.length → gain l n j = 0 := by
  have hnn : ∀ j, j < l.length → 0 ≤ wt l j - ledF l n j := by
    intro j hj
    have h2 := gain_low l hl hw h1 n j hj
    unfold gain at h2
    rw [hn] at h2
    rcases Int.lt_or_le (wt l j - ledF l n j) 0 with h3 | h3
    · have h4 : tsum l * (wt l j - ledF l n j) ≤ tsum l * (-1) := Int.mul_le_mul_of_nonneg_left (by omega) (by omega)
      rw [Int.mul_sub, Int.mul_comm (tsum l) (ledF l n j)] at h4
      omega
    · exact h3
  have hg : ∀ j, gain l n j = tsum l * (wt l j - ledF l n j) := fun j => by
    unfold gain; rw [hn, Int.mul_sub, Int.mul_comm (tsum l) (ledF l n j)]
  exact sumTo_zero (gain l n) l.length (fun j hj => by rw [hg]; exact Int.mul_nonneg (by omega) (hnn j hj)) (gain_sum l hl n)
theorem gain_period (l : List Seat) (hl : 0 < l.length) (hw : ∀ s ∈ l, 1 ≤ s.weight) (n : Nat) (hn : (n : Int) = tsum l) (h1 : 1 ≤ tsum l) (m : Nat) : (∀ j, j < l.length → gain l (m + n) j = gain l m j) ∧ leader l (m + n) = leader l m := by
  have hlead : ∀ m, (∀ j, j < l.length → gain l (m + n) j = gain l m j) → leader l (m + n) = leader l m := fun m h => by
    rw [leader_gain, leader_gain]
    exact argTo_congr _ _ _ fun j hj => by rw [h j hj]
  have key : ∀ j, j < l.length → gain l (m + n) j = gain l m j := by
    induction m with
    | zero => intro j hj; rw [Nat.zero_add, led_whole l hl hw n hn h1 j hj, gain_zero]
    | succ m ih =>
      intro j hj
      have e : m + 1 + n = (m + n) + 1 := by omega
      rw [e, gain_succ, gain_succ, ih j hj, hlead m ih]
  exact ⟨key, hlead m key⟩
/-- in as many turns as the weights together, from wherever, each leads as often as it weighs -/
theorem led_turns (l : List Seat) (hl : 0 < l.length) (hw : ∀ s ∈ l, 1 ≤ s.weight) (n : Nat) (hn : (n : Int) = tsum l) (h1 : 1 ≤ tsum l) (m j : Nat) (hj : j < l.length) : ledF l (m + n) j - ledF l m j = wt l j := by
  have h := (gain_period l hl hw n hn h1 m).1 j hj
  unfold gain at h
  have e : ((m + n : Nat) : Int) = (m : Int) + tsum l := by rw [← hn]; rfl
  rw [e, Int.add_mul] at h
  have h2 : tsum l * (wt l j - (ledF l (m + n) j - ledF l m j)) = 0 := by
    rw [Int.mul_sub, Int.mul_sub, Int.mul_comm (tsum l) (ledF l (m + n) j), Int.mul_comm (tsum l) (ledF l m j)]
    omega
  rcases Int.mul_eq_zero.1 h2 with h3 | h3 <;> omega
end Go.Proofs.Ytdgifhgiablgdaa
