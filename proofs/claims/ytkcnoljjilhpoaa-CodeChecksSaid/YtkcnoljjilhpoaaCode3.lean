/- The plain law of the reference's passes over code, and what a check of code answers. It imports nothing of the program. -/
import Derived.Test.YtkcnoljjilhpoaaCode1
namespace Go.Proofs.Ytkcnoljjilhpoaa
theorem flow_fun (ps : List Pce) : ∃ fl : Pce → Bool, ∀ p, IsFlow ps p.body (fl p) :=
  ⟨fun p => @decide (Flow ps p.body) (Classical.propDecidable _), fun p => by unfold IsFlow; simp⟩
theorem leavesS_bd (i : Ins) : 0 ≤ leavesS i ∧ leavesS i ≤ 2 := by
  unfold leavesS
  split
  · omega
  · split <;> omega
/-- a row of functions whose parameters are few -/
def Few (ps : List Pce) : Prop := ∀ p, p ∈ ps → 0 ≤ p.params ∧ p.params ≤ 8
theorem takesS_bd {ps : List Pce} (hp : Few ps) (i : Ins) (h : i.op = 30 → 0 ≤ i.a ∧ i.a ≤ 8) : 0 ≤ takesS ps i ∧ takesS ps i ≤ 11 := by
  unfold takesS
  split
  · split
    · rename_i p e
      have := hp p (List.mem_of_getElem? e)
      omega
    · omega
  · split
    · rename_i e; have := h e; omega
    · split
      · omega
      · split <;> omega
/-- an instruction that may be there -/
def Fit (nps : Nat) (nb : Nat) (i : Ins) : Prop := 1 ≤ i.op ∧ i.op ≤ 30 ∧ 0 ≤ i.a ∧ i.a ≤ 1099511627775 ∧ (i.op = 14 ∨ i.op = 15 → i.a < nb) ∧ (i.op = 16 → i.a < nps) ∧ (i.op = 30 → i.a ≤ 8)
theorem fitS_fit {nps nns : Nat} {p : Pce} {i : Ins} (h : fitS nps nns p i = true) (hl : p.locals ≤ 32) (hb : p.body.length ≤ 2048) (hn : nps ≤ 32) : Fit nps p.body.length i := by
  unfold fitS at h
  simp only [Bool.and_eq_true, decide_eq_true_eq] at h
  obtain ⟨⟨⟨⟨⟨h1, h2⟩, h3⟩, h4⟩, h5⟩, h6⟩ := h
  clear h5 h6
  refine ⟨h1, h2, h3, ?_, fun e => ?_, fun e => ?_, fun e => ?_⟩
  · unfold mostS at h4
    by_cases e1 : i.op = 1
    · rw [if_pos e1] at h4; exact h4
    rw [if_neg e1] at h4
    by_cases e2 : i.op = 3 ∨ i.op = 4
    · rw [if_pos e2] at h4; omega
    rw [if_neg e2] at h4
    by_cases e3 : i.op = 14 ∨ i.op = 15
    · rw [if_pos e3] at h4; omega
    rw [if_neg e3] at h4
    by_cases e4 : i.op = 16
    · rw [if_pos e4] at h4; omega
    rw [if_neg e4] at h4
    by_cases e5 : 18 ≤ i.op ∧ i.op ≤ 21
    · rw [if_pos e5] at h4; omega
    rw [if_neg e5] at h4
    by_cases e6 : i.op = 30
    · rw [if_pos e6] at h4; omega
    rw [if_neg e6] at h4; omega
  · unfold mostS at h4
    rw [if_neg (by omega), if_neg (by omega), if_pos e] at h4; omega
  · unfold mostS at h4
    rw [if_neg (by omega), if_neg (by omega), if_neg (by omega), if_pos e] at h4; omega
  · unfold mostS at h4
    rw [if_neg (by omega), if_neg (by omega), if_neg (by omega), if_neg (by omega), if_neg (by omega), if_pos e] at h4; omega
/-! ### passes -/
def lessN (hs : List Int) : Nat := hs.countP fun h => decide (h < 0)
theorem lessN_set : ∀ {hs : List Int} {i : Nat} {v : Int}, hs[i]? = some v → v < 0 → ∀ n : Int, 0 ≤ n → lessN (hs.set i n) + 1 = lessN hs
  | [], _, _, hv, _, _, _ => by simp at hv
  | x :: l, 0, v, hv, h, n, hn => by
    simp at hv; subst hv
    unfold lessN
    have e1 : decide (x < 0) = true := decide_eq_true h
    have e2 : decide (n < 0) = false := decide_eq_false (by omega)
    rw [List.set_cons_zero, List.countP_cons, List.countP_cons, e1, e2]
    simp
  | x :: l, i + 1, v, hv, h, n, hn => by
    simp only [List.getElem?_cons_succ] at hv
    have ih := lessN_set hv h n hn
    unfold lessN at *
    rw [List.set_cons_succ, List.countP_cons, List.countP_cons]
    omega
def Room (I : List Ins) (hs : List Int) : Prop := ∀ i : Nat, ∀ h, hs[i]? = some h → h + 2 * (lessN hs : Int) ≤ 2 * (I.length : Int)
theorem Room.set {I : List Ins} {hs : List Int} (h : Room I hs) {j i : Nat} {v g n : Int} (hv : hs[j]? = some v) (h0 : v < 0) (hg : hs[i]? = some g) (hn : 0 ≤ n) (hl : n ≤ g + 2) : Room I (hs.set j n) := fun k x hx => by
  have hs' := lessN_set hv h0 n hn
  have a := h i g hg
  rw [List.getElem?_set] at hx
  split at hx
  · split at hx
    · cases hx; omega
    · cases hx
  · have := h k x hx; omega
def mayB (ps : List Pce) (x : Ins) (h : Int) : Bool := decide (takesS ps x ≤ h) && decide (h ≤ 64) && (decide (x.op ≠ 17) || decide (h = 1))
theorem mayB_iff (ps : List Pce) (x : Ins) (h : Int) : mayB ps x h = true ↔ mayS ps x h := by
  unfold mayB mayS
  simp only [Bool.and_eq_true, Bool.or_eq_true, decide_eq_true_eq]
  constructor
  · rintro ⟨⟨a, b⟩, c⟩
    exact ⟨a, b, fun e => c.elim (fun c => absurd e c) id⟩
  · rintro ⟨a, b, c⟩
    refine ⟨⟨a, b⟩, ?_⟩
    by_cases e : x.op = 17
    · exact .inr (c e)
    · exact .inl e
section
variable {ps : List Pce} {I : List Ins} {hs : List Int} {ok : Bool} {i j : Nat} {g v : Int} {x : Ins}
theorem heldH_of (hg : hs[i]? = some g) (h0 : 0 ≤ g) : heldH hs i = some g := by unfold heldH; rw [hg]; simp; omega
theorem heldH_set (hj : j < hs.length) (n : Int) (hn : 0 ≤ n) (k : Nat) : heldH (hs.set j n) k = if j = k then some n else heldH hs k := by
  unfold heldH
  rw [List.getElem?_set]
  by_cases e : j = k
  · subst e
    rw [if_pos rfl, if_pos hj, if_pos rfl]
    simp; omega
  · rw [if_neg e, if_neg e]
theorem Pass.chk (h : Pass ps I hs ok) (hg : heldH hs i = some g) (hx : I[i]? = some x) : Pass ps I hs (ok && mayB ps x g) :=
  ⟨h.len, h.pos, h.start, fun H hH => by
    obtain ⟨a, b⟩ := h.sound H hH
    obtain ⟨y, h1, h2, _⟩ := hH.2 i g (b i g hg)
    rw [hx] at h1; cases h1
    exact ⟨by rw [a, (mayB_iff ps x g).mpr h2]; rfl, b⟩⟩
theorem Pass.far (h : Pass ps I hs ok) (hg : heldH hs i = some g) (hx : I[i]? = some x) (hj : j ∈ nextS i x) (hl : I.length ≤ j) : Pass ps I hs false :=
  ⟨h.len, h.pos, h.start, fun H hH => by
    obtain ⟨a, b⟩ := h.sound H hH
    obtain ⟨y, h1, h2, h3⟩ := hH.2 i g (b i g hg)
    rw [hx] at h1; cases h1
    obtain ⟨z, h4, _⟩ := hH.2 j _ (h3 j hj)
    rw [List.getElem?_eq_none hl] at h4; cases h4⟩
theorem Pass.put (h : Pass ps I hs ok) (hr : Room I hs) (hg : heldH hs i = some g) (hx : I[i]? = some x) (hj : j ∈ nextS i x) (hv : hs[j]? = some v) (h0 : v < 0) (hn : 0 ≤ outS ps x g) (ht : 0 ≤ takesS ps x) (hI : I.length ≤ 2048) :
    Pass ps I (hs.set j (outS ps x g)) ok ∧ Room I (hs.set j (outS ps x g)) := by
  have hjl : j < hs.length := by
    rcases Nat.lt_or_ge j hs.length with hl | hl
    · exact hl
    · rw [List.getElem?_eq_none hl] at hv; cases hv
  have hg' : hs[i]? = some g ∧ 0 ≤ g := by
    unfold heldH at hg
    split at hg
    · rename_i q e
      split at hg
      · cases hg
      · rename_i e2; cases hg; exact ⟨e, by omega⟩
    · cases hg
  have hl := leavesS_bd x
  have hout : outS ps x g ≤ g + 2 := by unfold outS; omega
  have hR := hr.set hv h0 hg'.1 hn hout
  refine ⟨⟨by rw [List.length_set]; exact h.len, fun k z hz => ?_, ?_, fun H hH => ?_⟩, hR⟩
  · have h1 := hR k z hz
    refine ⟨?_, by omega⟩
    rw [List.getElem?_set] at hz
    by_cases e : j = k
    · rw [if_pos e, if_pos (by omega)] at hz; cases hz; omega
    · rw [if_neg e] at hz; exact (h.pos k z hz).1
  · rw [List.getElem?_set, if_neg (fun e => by subst e; rw [h.start] at hv; cases hv; omega)]
    exact h.start
  · obtain ⟨a, b⟩ := h.sound H hH
    refine ⟨a, fun k z hz => ?_⟩
    rw [heldH_set hjl _ hn] at hz
    by_cases e : j = k
    · subst e
      rw [if_pos rfl] at hz
      obtain ⟨y, h1, h2, h3⟩ := hH.2 i g (b i g hg)
      rw [hx] at h1; cases h1
      rw [← hz]; exact h3 j hj
    · rw [if_neg e] at hz; exact b k z hz
theorem Pass.cmp (h : Pass ps I hs ok) (hg : heldH hs i = some g) (hx : I[i]? = some x) (hj : j ∈ nextS i x) (hv : hs[j]? = some v) (h0 : v < 0 → outS ps x g < 0) : Pass ps I hs (ok && (v == outS ps x g)) :=
  ⟨h.len, h.pos, h.start, fun H hH => by
    obtain ⟨a, b⟩ := h.sound H hH
    obtain ⟨y, h1, h2, h3⟩ := hH.2 i g (b i g hg)
    rw [hx] at h1; cases h1
    have hl := leavesS_bd x
    have hn : 0 ≤ outS ps x g := by unfold outS; have := h2.1; omega
    have hv0 : 0 ≤ v := by
      rcases Int.lt_or_le v 0 with hlt | hle
      · have := h0 hlt; omega
      · exact hle
    have h4 := b j v (heldH_of hv hv0)
    rw [h3 j hj] at h4
    injection h4 with h4
    exact ⟨by rw [a, h4]; simp, b⟩⟩
end
theorem Pass.start_ (ps : List Pce) (I : List Ins) (h0 : 0 < I.length) : Pass ps I ((List.replicate I.length (-1)).set 0 0) true ∧ Room I ((List.replicate I.length (-1)).set 0 0) := by
  have hat : ∀ k z, ((List.replicate I.length (-1 : Int)).set 0 0)[k]? = some z → (k = 0 ∧ z = 0) ∨ z = -1 := fun k z hz => by
    rw [List.getElem?_set] at hz
    split at hz
    · split at hz
      · cases hz; left; omega
      · cases hz
    · rw [List.getElem?_replicate] at hz
      split at hz
      · cases hz; exact .inr rfl
      · cases hz
  refine ⟨⟨by simp, fun k z hz => ?_, ?_, fun H hH => ⟨rfl, fun k z hz => ?_⟩⟩, fun k z hz => ?_⟩
  · rcases hat k z hz with ⟨_, rfl⟩ | rfl <;> omega
  · rw [List.getElem?_set, if_pos rfl, if_pos (by simpa using h0)]
  · unfold heldH at hz
    split at hz
    · rename_i q e
      split at hz
      · cases hz
      · rename_i e2
        cases hz
        rcases hat k _ e with ⟨rfl, rfl⟩ | rfl
        · exact hH.1
        · omega
    · cases hz
  · have hc : lessN ((List.replicate I.length (-1 : Int)).set 0 0) + 1 = lessN (List.replicate I.length (-1 : Int)) := lessN_set (v := -1) (by rw [List.getElem?_replicate, if_pos h0]) (by omega) 0 (by omega)
    have hc2 : lessN (List.replicate I.length (-1 : Int)) = I.length := by unfold lessN; rw [List.countP_replicate]; simp
    rcases hat k z hz with ⟨_, rfl⟩ | rfl <;> omega
theorem flow_none (ps : List Pce) : IsFlow ps [] false := flowB_no fun H hH => by
  obtain ⟨x, h1, _⟩ := hH.2 0 0 hH.1
  simp at h1
/-! ### the whole check -/
def bigB (p : Pce) : Bool := decide (2048 < p.body.length) || decide (32 < p.locals) || decide (8 < p.params)
def badB (nps nns : Nat) (p : Pce) : Bool := decide (p.params < 0) || decide (p.locals < p.params) || !p.body.all (fitS nps nns p)
def chkS (fl : Pce → Bool) (ps : List Pce) (nns : Nat) : Int :=
  if 32 < ps.length then 3 else if ps.any bigB then 3 else if ps.any (badB ps.length nns) then 13 else if ps.all fl then 0 else 13
end Go.Proofs.Ytkcnoljjilhpoaa
