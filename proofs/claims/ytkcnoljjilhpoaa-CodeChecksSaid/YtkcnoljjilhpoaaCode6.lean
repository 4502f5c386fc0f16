/- The plain law of one pass of the reference over code. It imports nothing of the program. -/
import Derived.Test.YtkcnoljjilhpoaaCode3
namespace Go.Proofs.Ytkcnoljjilhpoaa
structure RIn (ps : List Pce) (I : List Ins) (k c0 : Nat) (hs : List Int) (ok again : Bool) : Prop where
  pass : Pass ps I hs ok
  room : Room I hs
  good : again = false → ok = true → ∀ i, i < k → goodAt ps I hs i
  le : lessN hs ≤ c0
  lt : again = true → lessN hs < c0
structure RIn4 (ps : List Pce) (I : List Ins) (k c0 : Nat) (x : Ins) (v : Int) (q : Nat) (hs : List Int) (ok again : Bool) : Prop where
  pass : Pass ps I hs ok
  room : Room I hs
  held : heldH hs k = some v
  good : again = false → ok = true → (∀ i, i < k → goodAt ps I hs i) ∧ mayS ps x v ∧ ∀ j, j ∈ (nextS k x).take q → heldH hs j = some (outS ps x v)
  le : lessN hs ≤ c0
  lt : again = true → lessN hs < c0
section
variable {ps : List Pce} {I : List Ins} {k c0 : Nat} {hs : List Int} {ok again : Bool} {x : Ins} {v : Int} {q : Nat}
theorem RIn.start_ (h : Pass ps I hs ok) (hr : Room I hs) : RIn ps I 0 (lessN hs) hs ok false := ⟨h, hr, fun _ _ i hi => absurd hi (by omega), Nat.le_refl _, fun e => absurd e (by simp)⟩
theorem RIn.skip (h : RIn ps I k c0 hs ok again) (hv : hs[k]? = some v) (h0 : v < 0) : RIn ps I (k + 1) c0 hs ok again :=
  ⟨h.pass, h.room, fun a b i hi => by
    by_cases e : i = k
    · subst e
      intro g y hg
      unfold heldH at hg
      rw [hv] at hg
      simp [h0] at hg
    · exact h.good a b i (by omega), h.le, h.lt⟩
theorem RIn.enter (h : RIn ps I k c0 hs ok again) (hv : hs[k]? = some v) (h0 : 0 ≤ v) (hx : I[k]? = some x) : RIn4 ps I k c0 x v 0 hs (ok && mayB ps x v) again :=
  have hh := heldH_of hv h0
  ⟨h.pass.chk hh hx, h.room, hh, fun a b => by
    simp only [Bool.and_eq_true] at b
    exact ⟨h.good a b.1, (mayB_iff ps x v).mp b.2, fun j hj => absurd hj (by simp)⟩, h.le, h.lt⟩
theorem RIn4.far (h : RIn4 ps I k c0 x v q hs ok again) (hx : I[k]? = some x) (hq : q < (nextS k x).length) (hl : I.length ≤ (nextS k x)[q]) : RIn4 ps I k c0 x v (q + 1) hs false again :=
  ⟨h.pass.far h.held hx (List.getElem_mem hq) hl, h.room, h.held, fun _ b => absurd b (by simp), h.le, h.lt⟩
theorem RIn4.put {u : Int} (h : RIn4 ps I k c0 x v q hs ok again) (hx : I[k]? = some x) (hq : q < (nextS k x).length) (hu : hs[(nextS k x)[q]]? = some u) (h0 : u < 0) (hn : 0 ≤ outS ps x v) (ht : 0 ≤ takesS ps x) (hI : I.length ≤ 2048) : RIn4 ps I k c0 x v (q + 1) (hs.set (nextS k x)[q] (outS ps x v)) ok true := by
  obtain ⟨a, b⟩ := h.pass.put h.room h.held hx (List.getElem_mem hq) hu h0 hn ht hI
  have hl := lessN_set hu h0 _ hn
  have hlt : (nextS k x)[q] < hs.length := by
    rcases Nat.lt_or_ge (nextS k x)[q] hs.length with h | h
    · exact h
    · rw [List.getElem?_eq_none h] at hu; cases hu
  refine ⟨a, b, ?_, fun e => absurd e (by simp), by have := h.le; omega, fun _ => by have := h.le; omega⟩
  rw [heldH_set hlt _ hn, if_neg]
  · exact h.held
  · intro e
    have hh := h.held
    rw [← e] at hh
    unfold heldH at hh
    rw [hu] at hh
    simp [h0] at hh
theorem RIn4.cmp {u : Int} (h : RIn4 ps I k c0 x v q hs ok again) (hx : I[k]? = some x) (hq : q < (nextS k x).length) (hu : hs[(nextS k x)[q]]? = some u) (h0 : u < 0 → outS ps x v < 0) : RIn4 ps I k c0 x v (q + 1) hs (ok && (u == outS ps x v)) again :=
  ⟨h.pass.cmp h.held hx (List.getElem_mem hq) hu h0, h.room, h.held, fun a b => by
    simp only [Bool.and_eq_true, beq_iff_eq] at b
    obtain ⟨b1, b2⟩ := b
    obtain ⟨g1, g2, g3⟩ := h.good a b1
    refine ⟨g1, g2, fun j hj => ?_⟩
    rw [List.take_add_one, List.mem_append] at hj
    rcases hj with hj | hj
    · exact g3 j hj
    · rw [List.getElem?_eq_getElem hq] at hj
      simp at hj
      subst hj
      have hl := leavesS_bd x
      have hn : 0 ≤ outS ps x v := by unfold outS; have := g2.1; omega
      rw [← b2]
      exact heldH_of hu (by omega), h.le, h.lt⟩
theorem RIn4.leave (h : RIn4 ps I k c0 x v q hs ok again) (hx : I[k]? = some x) (hq : (nextS k x).length ≤ q) : RIn ps I (k + 1) c0 hs ok again :=
  ⟨h.pass, h.room, fun a b i hi => by
    obtain ⟨g1, g2, g3⟩ := h.good a b
    by_cases e : i = k
    · subst e
      intro g y hg hy
      rw [h.held] at hg
      cases hg
      rw [hx] at hy
      cases hy
      refine ⟨g2, fun j hj => g3 j ?_⟩
      rw [List.take_of_length_le hq]
      exact hj
    · exact g1 i (by omega), h.le, h.lt⟩
theorem RIn.over (h : RIn ps I k c0 hs ok false) (hk : I.length ≤ k) : IsFlow ps I ok := h.pass.over fun b i hi => h.good rfl b i (by omega)
end
end Go.Proofs.Ytkcnoljjilhpoaa
