/- The plain law of code that flows: a row of instructions flows if each that is reached has one height. It imports nothing of the program. -/
import Derived.WalkKit
namespace Go.Proofs.Ytkcnoljjilhpoaa
structure Ins where
  op : Int
  a : Int
  b : Int
structure Pce where
  name : List UInt8
  opn : Bool
  params : Int
  locals : Int
  body : List Ins
/-- how many numbers an instruction takes, and how many it leaves (ps: the parameters of the functions) -/
def takesS (ps : List Pce) (i : Ins) : Int :=
  if i.op = 16 then (match ps[i.a.toNat]? with | some p => p.params | none => 0)
  else if i.op = 30 then i.a + 3
  else if i.op = 1 ∨ i.op = 3 ∨ i.op = 14 ∨ i.op = 18 ∨ i.op = 22 ∨ i.op = 23 ∨ i.op = 24 ∨ i.op = 25 then 0
  else if i.op = 2 ∨ i.op = 4 ∨ i.op = 13 ∨ i.op = 15 ∨ i.op = 17 ∨ i.op = 19 ∨ i.op = 20 ∨ i.op = 26 ∨ i.op = 28 ∨ i.op = 29 then 1
  else 2
def leavesS (i : Ins) : Int :=
  if i.op = 30 then 2
  else if i.op = 2 ∨ i.op = 4 ∨ i.op = 14 ∨ i.op = 15 ∨ i.op = 17 ∨ i.op = 19 ∨ i.op = 21 ∨ i.op = 27 ∨ i.op = 28 ∨ i.op = 29 then 0
  else 1
/-- the greatest first operand -/
def mostS (nps : Nat) (p : Pce) (i : Ins) : Int :=
  if i.op = 1 then 1099511627775
  else if i.op = 3 ∨ i.op = 4 then p.locals - 1
  else if i.op = 14 ∨ i.op = 15 then (p.body.length : Int) - 1
  else if i.op = 16 then (nps : Int) - 1
  else if 18 ≤ i.op ∧ i.op ≤ 21 then 31
  else if i.op = 30 then 8
  else 0
def fitS (nps nns : Nat) (p : Pce) (i : Ins) : Bool :=
  decide (1 ≤ i.op) && decide (i.op ≤ 30) && decide (0 ≤ i.a) && decide (i.a ≤ mostS nps p i) && decide (0 ≤ i.b) && decide (i.b ≤ if i.op = 30 then (nns : Int) - 1 else 0)
/-- where the way goes on -/
def nextS (at' : Nat) (i : Ins) : List Nat := (if i.op = 14 ∨ i.op = 15 then [i.a.toNat] else []) ++ (if i.op ≠ 14 ∧ i.op ≠ 17 then [at' + 1] else [])
def outS (ps : List Pce) (i : Ins) (h : Int) : Int := h - takesS ps i + leavesS i
/-- may the instruction be at this height? -/
def mayS (ps : List Pce) (i : Ins) (h : Int) : Prop := takesS ps i ≤ h ∧ h ≤ 64 ∧ (i.op = 17 → h = 1)
/-- one height for each place that is reached -/
def Typ (ps : List Pce) (I : List Ins) (H : Nat → Option Int) : Prop :=
  H 0 = some 0 ∧ ∀ i h, H i = some h → ∃ x, I[i]? = some x ∧ mayS ps x h ∧ ∀ j, j ∈ nextS i x → H j = some (outS ps x h)
def Flow (ps : List Pce) (I : List Ins) : Prop := ∃ H, Typ ps I H
/-- the answer b is right -/
def IsFlow (ps : List Pce) (I : List Ins) (b : Bool) : Prop := b = true ↔ Flow ps I
theorem IsFlow.eq {ps : List Pce} {I : List Ins} {b c : Bool} (h : IsFlow ps I b) (k : IsFlow ps I c) : b = c := by
  unfold IsFlow at h k
  rw [Bool.eq_iff_iff, h, k]
theorem flowB_yes {ps : List Pce} {I : List Ins} {H : Nat → Option Int} (h : Typ ps I H) : IsFlow ps I true := ⟨fun _ => ⟨H, h⟩, fun _ => rfl⟩
theorem flowB_no {ps : List Pce} {I : List Ins} (h : ∀ H, ¬ Typ ps I H) : IsFlow ps I false := ⟨fun e => absurd e (by simp), fun ⟨H, k⟩ => absurd k (h H)⟩
/-! ### the way of the program: a heap of places that are still to be looked at -/
/-- the heights so far, each plus one -/
def seenH (hs : List Int) (i : Nat) : Option Int := match hs[i]? with | some h => if h = 0 then none else some (h - 1) | none => none
structure Under (ps : List Pce) (I : List Ins) (hs : List Int) (todo : List (Nat × Int)) : Prop where
  len : hs.length = I.length
  pos : ∀ i : Nat, ∀ h, hs[i]? = some h → 0 ≤ h ∧ h ≤ 65
  lim : ∀ x, x ∈ todo → x.1 ≤ 1099511627776 ∧ 0 ≤ x.2 ∧ x.2 ≤ 1000
  start : (0, 0) ∈ todo ∨ seenH hs 0 = some 0
  done : ∀ i h x, seenH hs i = some h → I[i]? = some x → mayS ps x h ∧ ∀ j, j ∈ nextS i x → (j, outS ps x h) ∈ todo ∨ seenH hs j = some (outS ps x h)
  sound : ∀ H, Typ ps I H → (∀ x, x ∈ todo → H x.1 = some x.2) ∧ ∀ i h, seenH hs i = some h → H i = some h
theorem seenH_lt {hs : List Int} {i : Nat} {h : Int} (e : seenH hs i = some h) : i < hs.length := by
  unfold seenH at e
  rcases Nat.lt_or_ge i hs.length with hl | hl
  · exact hl
  · rw [List.getElem?_eq_none hl] at e; cases e
theorem seenH_set {hs : List Int} {i : Nat} (hi : i < hs.length) (v : Int) (hv : v ≠ 0) (j : Nat) : seenH (hs.set i v) j = if i = j then some (v - 1) else seenH hs j := by
  unfold seenH
  rw [List.getElem?_set]
  by_cases e : i = j
  · rw [if_pos e, if_pos e, ]
    subst e
    rw [if_pos hi]
    simp [hv]
  · rw [if_neg e, if_neg e]
theorem Under.start_ (ps : List Pce) (I : List Ins) : Under ps I (List.replicate I.length 0) [(0, 0)] := by
  have hs : ∀ i, seenH (List.replicate I.length (0 : Int)) i = none := fun i => by
    unfold seenH
    rw [List.getElem?_replicate]
    split <;> simp_all
  refine ⟨by simp, fun i h e => ?_, fun x hx => ?_, .inl (by simp), fun i h x e => ?_, fun H hH => ⟨fun x hx => ?_, fun i h e => ?_⟩⟩
  · rw [List.getElem?_replicate] at e
    split at e
    · cases e; omega
    · cases e
  · simp at hx; subst hx; simp
  · rw [hs] at e; cases e
  · simp at hx; subst hx; exact hH.1
  · rw [hs] at e; cases e
theorem Under.over {ps : List Pce} {I : List Ins} {hs : List Int} (h : Under ps I hs []) : IsFlow ps I true := by
  refine flowB_yes (H := seenH hs) ⟨?_, fun i g e => ?_⟩
  · rcases h.start with h1 | h1
    · cases h1
    · exact h1
  · have hl := seenH_lt e
    rw [h.len] at hl
    refine ⟨I[i], List.getElem?_eq_getElem hl, ?_⟩
    obtain ⟨a, b⟩ := h.done i g I[i] e (List.getElem?_eq_getElem hl)
    refine ⟨a, fun j hj => ?_⟩
    rcases b j hj with b | b
    · cases b
    · exact b
section
variable {ps : List Pce} {I : List Ins} {hs : List Int} {todo : List (Nat × Int)} {at' : Nat} {g : Int}
/-- a place behind the end, or too high -/
theorem Under.out_ (h : Under ps I hs (todo ++ [(at', g)])) (hb : I.length ≤ at' ∨ 64 < g) : IsFlow ps I false :=
  flowB_no fun H hH => by
    have := (h.sound H hH).1 (at', g) (by simp)
    obtain ⟨x, h1, h2, _⟩ := hH.2 _ _ this
    rcases hb with hb | hb
    · rw [List.getElem?_eq_none hb] at h1; cases h1
    · have := h2.2.1; omega
/-- a place that has another height already -/
theorem Under.other (h : Under ps I hs (todo ++ [(at', g)])) {v : Int} (hv : hs[at']? = some v) (h0 : v ≠ 0) (hne : v ≠ g + 1) : IsFlow ps I false :=
  flowB_no fun H hH => by
    obtain ⟨s1, s2⟩ := h.sound H hH
    have a := s1 (at', g) (by simp)
    have b := s2 at' (v - 1) (by unfold seenH; rw [hv]; simp [h0])
    rw [a] at b
    injection b with b
    omega
/-- a place that has this height already -/
theorem Under.again (h : Under ps I hs (todo ++ [(at', g)])) {v : Int} (hv : hs[at']? = some v) (h0 : v ≠ 0) (hne : v = g + 1) : Under ps I hs todo := by
  have hsn : seenH hs at' = some g := by unfold seenH; rw [hv]; simp [h0]; omega
  have red : ∀ y, y ∈ todo ++ [(at', g)] → y ∈ todo ∨ seenH hs y.1 = some y.2 := fun y hy => by
    rcases List.mem_append.mp hy with hy | hy
    · exact .inl hy
    · simp at hy; subst hy; exact .inr hsn
  refine ⟨h.len, h.pos, fun x hx => h.lim x (List.mem_append_left _ hx), ?_, fun i k x e ex => ?_, fun H hH => ⟨fun x hx => (h.sound H hH).1 x (List.mem_append_left _ hx), (h.sound H hH).2⟩⟩
  · rcases h.start with s | s
    · exact red _ s
    · exact .inr s
  · obtain ⟨a, b⟩ := h.done i k x e ex
    refine ⟨a, fun j hj => ?_⟩
    rcases b j hj with b | b
    · exact red _ b
    · exact .inr b
/-- an instruction that may not be there -/
theorem Under.bad (h : Under ps I hs (todo ++ [(at', g)])) {x : Ins} (hx : I[at']? = some x) (hm : ¬ mayS ps x g) : IsFlow ps I false :=
  flowB_no fun H hH => by
    have a := (h.sound H hH).1 (at', g) (by simp)
    obtain ⟨y, h1, h2, _⟩ := hH.2 _ _ a
    rw [hx] at h1
    cases h1
    exact hm h2
/-- a new place -/
theorem Under.step (h : Under ps I hs (todo ++ [(at', g)])) {x : Ins} (hx : I[at']? = some x) (hv : hs[at']? = some 0) (hm : mayS ps x g) (ha : x.a ≤ 1099511627775) (hl : leavesS x ≤ 2) (ht : 0 ≤ takesS ps x) (hl0 : 0 ≤ leavesS x) (hat : at' ≤ 1099511627775) :
    Under ps I (hs.set at' (g + 1)) (todo ++ (nextS at' x).map fun j => (j, outS ps x g)) := by
  have hlt : at' < hs.length := by
    rcases Nat.lt_or_ge at' hs.length with hl | hl
    · exact hl
    · rw [List.getElem?_eq_none hl] at hv; cases hv
  have hg := h.lim (at', g) (by simp)
  have hs' := seenH_set hlt (g + 1) (by omega)
  have hsn : seenH (hs.set at' (g + 1)) at' = some g := by rw [hs', if_pos rfl]; simp
  have old : ∀ j k, seenH hs j = some k → seenH (hs.set at' (g + 1)) j = some k := fun j k e => by
    rw [hs']
    by_cases ej : at' = j
    · subst ej; unfold seenH at e; rw [hv] at e; simp at e
    · rw [if_neg ej]; exact e
  have red : ∀ y, y ∈ todo ++ [(at', g)] → y ∈ todo ∨ seenH (hs.set at' (g + 1)) y.1 = some y.2 := fun y hy => by
    rcases List.mem_append.mp hy with hy | hy
    · exact .inl hy
    · simp at hy; subst hy; exact .inr hsn
  obtain ⟨m1, m2, m3⟩ := hm
  refine ⟨by rw [List.length_set]; exact h.len, fun i k e => ?_, fun y hy => ?_, ?_, fun i k y e ey => ?_, fun H hH => ⟨fun y hy => ?_, fun i k e => ?_⟩⟩
  · rw [List.getElem?_set] at e
    split at e
    · cases e; simp only at hg; omega
    · exact h.pos i k e
  · rcases List.mem_append.mp hy with hy | hy
    · exact h.lim y (List.mem_append_left _ hy)
    · obtain ⟨j, hj, rfl⟩ := List.mem_map.mp hy
      refine ⟨?_, ?_, ?_⟩
      · simp only [nextS, List.mem_append] at hj
        rcases hj with hj | hj
        · split at hj
          · simp at hj; omega
          · simp at hj
        · split at hj
          · simp at hj; omega
          · simp at hj
      · simp only [outS]; omega
      · simp only [outS]; omega
  · rcases h.start with s | s
    · rcases red _ s with s | s
      · exact .inl (List.mem_append_left _ s)
      · exact .inr s
    · exact .inr (old _ _ s)
  · rw [hs'] at e
    by_cases ei : at' = i
    · subst ei
      rw [if_pos rfl] at e
      injection e with e
      have e : k = g := by omega
      subst e
      rw [hx] at ey
      cases ey
      exact ⟨⟨m1, m2, m3⟩, fun j hj => .inl (List.mem_append_right _ (List.mem_map.mpr ⟨j, hj, rfl⟩))⟩
    · rw [if_neg ei] at e
      obtain ⟨a, b⟩ := h.done i k y e ey
      refine ⟨a, fun j hj => ?_⟩
      rcases b j hj with b | b
      · rcases red _ b with b | b
        · exact .inl (List.mem_append_left _ b)
        · exact .inr b
      · exact .inr (old _ _ b)
  · rcases List.mem_append.mp hy with hy | hy
    · exact (h.sound H hH).1 y (List.mem_append_left _ hy)
    · obtain ⟨j, hj, rfl⟩ := List.mem_map.mp hy
      have a := (h.sound H hH).1 (at', g) (by simp)
      obtain ⟨z, h1, h2, h3⟩ := hH.2 _ _ a
      rw [hx] at h1
      cases h1
      exact h3 j hj
  · rw [hs'] at e
    by_cases ei : at' = i
    · subst ei
      rw [if_pos rfl] at e
      injection e with e
      have e : k = g := by omega
      subst e
      exact (h.sound H hH).1 (at', k) (by simp)
    · rw [if_neg ei] at e
      exact (h.sound H hH).2 i k e
end
/-- how many places are not reached yet -/
def freshN (hs : List Int) : Nat := hs.countP (· == 0)
theorem freshN_set {hs : List Int} {i : Nat} (hv : hs[i]? = some 0) (v : Int) (h0 : v ≠ 0) : freshN (hs.set i v) + 1 = freshN hs := by
  unfold freshN
  induction hs generalizing i with
  | nil => simp at hv
  | cons x l ih =>
    cases i with
    | zero => simp at hv; subst hv; simp [h0]
    | succ i =>
      simp only [List.getElem?_cons_succ] at hv
      have := ih hv
      rw [List.set_cons_succ, List.countP_cons, List.countP_cons]
      omega
/-! ### the way of the reference: pass by pass, till a pass changes nothing -/
def heldH (hs : List Int) (i : Nat) : Option Int := match hs[i]? with | some h => if h < 0 then none else some h | none => none
/-- what holds all the while -/
structure Pass (ps : List Pce) (I : List Ins) (hs : List Int) (ok : Bool) : Prop where
  len : hs.length = I.length
  pos : ∀ i : Nat, ∀ h, hs[i]? = some h → -1 ≤ h ∧ h ≤ 70000
  start : hs[0]? = some 0
  sound : ∀ H, Typ ps I H → ok = true ∧ ∀ i h, heldH hs i = some h → H i = some h
/-- the instruction at i is as it must be -/
def goodAt (ps : List Pce) (I : List Ins) (hs : List Int) (i : Nat) : Prop := ∀ h x, heldH hs i = some h → I[i]? = some x → mayS ps x h ∧ ∀ j, j ∈ nextS i x → heldH hs j = some (outS ps x h)
theorem Pass.over {ps : List Pce} {I : List Ins} {hs : List Int} {ok : Bool} (h : Pass ps I hs ok) (hg : ok = true → ∀ i, i < I.length → goodAt ps I hs i) : IsFlow ps I ok := by
  cases ok
  · exact flowB_no fun H hH => by have := (h.sound H hH).1; cases this
  · refine flowB_yes (H := heldH hs) ⟨by unfold heldH; rw [h.start]; rfl, fun i g e => ?_⟩
    have hl : i < I.length := by
      rw [← h.len]
      rcases Nat.lt_or_ge i hs.length with hl | hl
      · exact hl
      · unfold heldH at e; rw [List.getElem?_eq_none hl] at e; cases e
    obtain ⟨a, b⟩ := hg rfl i hl g I[i] e (List.getElem?_eq_getElem hl)
    exact ⟨I[i], List.getElem?_eq_getElem hl, a, b⟩
end Go.Proofs.Ytkcnoljjilhpoaa
