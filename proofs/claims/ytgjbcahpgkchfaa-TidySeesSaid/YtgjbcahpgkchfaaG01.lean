/- Of the texts Code1, Code3, Ty0, Ty1, Ty2, Ty3. -/
import Derived.WalkKit
set_option linter.unusedSimpArgs false
set_option linter.unusedVariables false
namespace Go.Proofs.Ytgjbcahpgkchfaa
structure Ins where
 op : Int
 a : Int
 b : Int
structure Pce where
 name : List UInt8
 opn : Bool
 params : Int
 locals : Int
 body : List Ins
def takesS (ps : List Pce) (i : Ins) : Int :=
 if i.op = 16 then (match ps[i.a.toNat]? with | some p => p.params | none => 0)
 else if i.op = 30 then i.a + 3
 else if i.op = 1 ∨ i.op = 3 ∨ i.op = 14 ∨ i.op = 18 ∨ i.op = 22 ∨ i.op = 23 ∨ i.op = 24 ∨ i.op = 25 then 0
 else if i.op = 2 ∨ i.op = 4 ∨ i.op = 13 ∨ i.op = 15 ∨ i.op = 17 ∨ i.op = 19 ∨ i.op = 20 ∨ i.op = 26 ∨ i.op = 28 ∨ i.op = 29 then 1
 else 2
def leavesS (i : Ins) : Int :=
 if i.op = 30 then 2
 else if i.op = 2 ∨ i.op = 4 ∨ i.op = 14 ∨ i.op = 15 ∨ i.op = 17 ∨ i.op = 19 ∨ i.op = 21 ∨ i.op = 27 ∨ i.op = 28 ∨ i.op = 29 then 0
 else 1
def mostS (nps : Nat) (p : Pce) (i : Ins) : Int :=
 if i.op = 1 then 1099511627775
 else if i.op = 3 ∨ i.op = 4 then p.locals - 1
 else if i.op = 14 ∨ i.op = 15 then (p.body.length : Int) - 1
 else if i.op = 16 then (nps : Int) - 1
 else if 18 ≤ i.op ∧ i.op ≤ 21 then 31
 else if i.op = 30 then 8
 else 0
def fitS (nps nns : Nat) (p : Pce) (i : Ins) : Bool :=
 decide (1 ≤ i.op) && decide (i.op ≤ 30) && decide (0 ≤ i.a) && decide (i.a ≤ mostS nps p i) && decide (0 ≤ i.b) && decide (i.b ≤ if i.op = 30 then (nns : Int) - 1 else 0)
def nextS (at' : Nat) (i : Ins) : List Nat := (if i.op = 14 ∨ i.op = 15 then [i.a.toNat] else []) ++ (if i.op ≠ 14 ∧ i.op ≠ 17 then [at' + 1] else [])
def outS (ps : List Pce) (i : Ins) (h : Int) : Int := h - takesS ps i + leavesS i
def mayS (ps : List Pce) (i : Ins) (h : Int) : Prop := takesS ps i ≤ h ∧ h ≤ 64 ∧ (i.op = 17 → h = 1)
def Typ (ps : List Pce) (I : List Ins) (H : Nat → Option Int) : Prop :=
 H 0 = some 0 ∧ ∀ i h, H i = some h → ∃ x, I[i]? = some x ∧ mayS ps x h ∧ ∀ j, j ∈ nextS i x → H j = some (outS ps x h)
def Flow (ps : List Pce) (I : List Ins) : Prop := ∃ H, Typ ps I H
def IsFlow (ps : List Pce) (I : List Ins) (b : Bool) : Prop := b = true ↔ Flow ps I
theorem IsFlow.eq {ps : List Pce} {I : List Ins} {b c : Bool} (h : IsFlow ps I b) (k : IsFlow ps I c) : b = c := by
 unfold IsFlow at h k; rw [Bool.eq_iff_iff, h, k]
theorem flowB_yes {ps : List Pce} {I : List Ins} {H : Nat → Option Int} (h : Typ ps I H) : IsFlow ps I true := ⟨fun _ => ⟨H, h⟩, fun _ => rfl⟩
theorem flowB_no {ps : List Pce} {I : List Ins} (h : ∀ H, ¬ Typ ps I H) : IsFlow ps I false := ⟨fun e => absurd e (by simp), fun ⟨H, k⟩ => absurd k (h H)⟩
def seenH (hs : List Int) (i : Nat) : Option Int := match hs[i]? with | some h => if h = 0 then none else some (h - 1) | none => none
structure Under (ps : List Pce) (I : List Ins) (hs : List Int) (todo : List (Nat × Int)) : Prop where
 len : hs.length = I.length
 pos : ∀ i : Nat, ∀ h, hs[i]? = some h → 0 ≤ h ∧ h ≤ 65
 lim : ∀ x, x ∈ todo → x.1 ≤ 1099511627776 ∧ 0 ≤ x.2 ∧ x.2 ≤ 1000
 start : (0, 0) ∈ todo ∨ seenH hs 0 = some 0
 done : ∀ i h x, seenH hs i = some h → I[i]? = some x → mayS ps x h ∧ ∀ j, j ∈ nextS i x → (j, outS ps x h) ∈ todo ∨ seenH hs j = some (outS ps x h)
 sound : ∀ H, Typ ps I H → (∀ x, x ∈ todo → H x.1 = some x.2) ∧ ∀ i h, seenH hs i = some h → H i = some h
theorem seenH_lt {hs : List Int} {i : Nat} {h : Int} (e : seenH hs i = some h) : i < hs.length := by
 unfold seenH at e
 rcases Nat.lt_or_ge i hs.length with hl | hl
 ·exact hl
 ·rw [List.getElem?_eq_none hl] at e; cases e
theorem seenH_set {hs : List Int} {i : Nat} (hi : i < hs.length) (v : Int) (hv : v ≠ 0) (j : Nat) : seenH (hs.set i v) j = if i = j then some (v - 1) else seenH hs j := by
 unfold seenH; rw [List.getElem?_set]
 by_cases e : i = j
 ·rw [if_pos e, if_pos e, ]; subst e; rw [if_pos hi]; simp [hv]
 ·rw [if_neg e, if_neg e]
theorem Under.start_ (ps : List Pce) (I : List Ins) : Under ps I (List.replicate I.length 0) [(0, 0)] := by
 have hs : ∀ i, seenH (List.replicate I.length (0 : Int)) i = none := fun i => by
  unfold seenH; rw [List.getElem?_replicate]; split <;> simp_all
 refine ⟨by simp, fun i h e => ?_, fun x hx => ?_, .inl (by simp), fun i h x e => ?_, fun H hH => ⟨fun x hx => ?_, fun i h e => ?_⟩⟩
 ·rw [List.getElem?_replicate] at e; split at e
  ·cases e; omega
  ·cases e
 ·simp at hx; subst hx; simp
 ·rw [hs] at e; cases e
 ·simp at hx; subst hx; exact hH.1
 ·rw [hs] at e; cases e
theorem Under.over {ps : List Pce} {I : List Ins} {hs : List Int} (h : Under ps I hs []) : IsFlow ps I true := by
 refine flowB_yes (H := seenH hs) ⟨?_, fun i g e => ?_⟩
 ·rcases h.start with h1 | h1
  ·cases h1
  ·exact h1
 ·have hl := seenH_lt e; rw [h.len] at hl; refine ⟨I[i], List.getElem?_eq_getElem hl, ?_⟩; obtain ⟨a, b⟩ := h.done i g I[i] e (List.getElem?_eq_getElem hl); refine ⟨a, fun j hj => ?_⟩
  rcases b j hj with b | b
  ·cases b
  ·exact b
section
variable {ps : List Pce} {I : List Ins} {hs : List Int} {todo : List (Nat × Int)} {at' : Nat} {g : Int}
theorem Under.out_ (h : Under ps I hs (todo ++ [(at', g)])) (hb : I.length ≤ at' ∨ 64 < g) : IsFlow ps I false :=
 flowB_no fun H hH => by
  have := (h.sound H hH).1 (at', g) (by simp); obtain ⟨x, h1, h2, _⟩ := hH.2 _ _ this
  rcases hb with hb | hb
  ·rw [List.getElem?_eq_none hb] at h1; cases h1
  ·have := h2.2.1; omega
theorem Under.other (h : Under ps I hs (todo ++ [(at', g)])) {v : Int} (hv : hs[at']? = some v) (h0 : v ≠ 0) (hne : v ≠ g + 1) : IsFlow ps I false :=
 flowB_no fun H hH => by
  obtain ⟨s1, s2⟩ := h.sound H hH; have a := s1 (at', g) (by simp); have b := s2 at' (v - 1) (by unfold seenH; rw [hv]; simp [h0]); rw [a] at b; injection b with b
  omega
theorem Under.again (h : Under ps I hs (todo ++ [(at', g)])) {v : Int} (hv : hs[at']? = some v) (h0 : v ≠ 0) (hne : v = g + 1) : Under ps I hs todo := by
 have hsn : seenH hs at' = some g := by unfold seenH; rw [hv]; simp [h0]; omega
 have red : ∀ y, y ∈ todo ++ [(at', g)] → y ∈ todo ∨ seenH hs y.1 = some y.2 := fun y hy => by
  rcases List.mem_append.mp hy with hy | hy
  ·exact .inl hy
  ·simp at hy; subst hy; exact .inr hsn
 refine ⟨h.len, h.pos, fun x hx => h.lim x (List.mem_append_left _ hx), ?_, fun i k x e ex => ?_, fun H hH => ⟨fun x hx => (h.sound H hH).1 x (List.mem_append_left _ hx), (h.sound H hH).2⟩⟩
 ·rcases h.start with s | s
  ·exact red _ s
  ·exact .inr s
 ·obtain ⟨a, b⟩ := h.done i k x e ex; refine ⟨a, fun j hj => ?_⟩
  rcases b j hj with b | b
  ·exact red _ b
  ·exact .inr b
theorem Under.bad (h : Under ps I hs (todo ++ [(at', g)])) {x : Ins} (hx : I[at']? = some x) (hm : ¬ mayS ps x g) : IsFlow ps I false :=
 flowB_no fun H hH => by
  have a := (h.sound H hH).1 (at', g) (by simp); obtain ⟨y, h1, h2, _⟩ := hH.2 _ _ a; rw [hx] at h1; cases h1; exact hm h2
theorem Under.step (h : Under ps I hs (todo ++ [(at', g)])) {x : Ins} (hx : I[at']? = some x) (hv : hs[at']? = some 0) (hm : mayS ps x g) (ha : x.a ≤ 1099511627775) (hl : leavesS x ≤ 2) (ht : 0 ≤ takesS ps x) (hl0 : 0 ≤ leavesS x) (hat : at' ≤ 1099511627775) :
  Under ps I (hs.set at' (g + 1)) (todo ++ (nextS at' x).map fun j => (j, outS ps x g)) := by
 have hlt : at' < hs.length := by
  rcases Nat.lt_or_ge at' hs.length with hl | hl
  ·exact hl
  ·rw [List.getElem?_eq_none hl] at hv; cases hv
 have hg := h.lim (at', g) (by simp); have hs' := seenH_set hlt (g + 1) (by omega); have hsn : seenH (hs.set at' (g + 1)) at' = some g := by rw [hs', if_pos rfl]; simp
 have old : ∀ j k, seenH hs j = some k → seenH (hs.set at' (g + 1)) j = some k := fun j k e => by
  rw [hs']
  by_cases ej : at' = j
  ·subst ej; unfold seenH at e; rw [hv] at e; simp at e
  ·rw [if_neg ej]; exact e
 have red : ∀ y, y ∈ todo ++ [(at', g)] → y ∈ todo ∨ seenH (hs.set at' (g + 1)) y.1 = some y.2 := fun y hy => by
  rcases List.mem_append.mp hy with hy | hy
  ·exact .inl hy
  ·simp at hy; subst hy; exact .inr hsn
 obtain ⟨m1, m2, m3⟩ := hm; refine ⟨by rw [List.length_set]; exact h.len, fun i k e => ?_, fun y hy => ?_, ?_, fun i k y e ey => ?_, fun H hH => ⟨fun y hy => ?_, fun i k e => ?_⟩⟩
 ·rw [List.getElem?_set] at e; split at e
  ·cases e; simp only at hg; omega
  ·exact h.pos i k e
 ·rcases List.mem_append.mp hy with hy | hy
  ·exact h.lim y (List.mem_append_left _ hy)
  ·obtain ⟨j, hj, rfl⟩ := List.mem_map.mp hy; refine ⟨?_, ?_, ?_⟩
   ·simp only [nextS, List.mem_append] at hj
    rcases hj with hj | hj
    ·split at hj
     ·simp at hj; omega
     ·simp at hj
    ·split at hj
     ·simp at hj; omega
     ·simp at hj
   ·simp only [outS]; omega
   ·simp only [outS]; omega
 ·rcases h.start with s | s
  ·rcases red _ s with s | s
   ·exact .inl (List.mem_append_left _ s)
   ·exact .inr s
  ·exact .inr (old _ _ s)
 ·rw [hs'] at e
  by_cases ei : at' = i
  ·subst ei; rw [if_pos rfl] at e; injection e with e
   have e : k = g := by omega
   subst e; rw [hx] at ey; cases ey; exact ⟨⟨m1, m2, m3⟩, fun j hj => .inl (List.mem_append_right _ (List.mem_map.mpr ⟨j, hj, rfl⟩))⟩
  ·rw [if_neg ei] at e; obtain ⟨a, b⟩ := h.done i k y e ey; refine ⟨a, fun j hj => ?_⟩
   rcases b j hj with b | b
   ·rcases red _ b with b | b
    ·exact .inl (List.mem_append_left _ b)
    ·exact .inr b
   ·exact .inr (old _ _ b)
 ·rcases List.mem_append.mp hy with hy | hy
  ·exact (h.sound H hH).1 y (List.mem_append_left _ hy)
  ·obtain ⟨j, hj, rfl⟩ := List.mem_map.mp hy; have a := (h.sound H hH).1 (at', g) (by simp); obtain ⟨z, h1, h2, h3⟩ := hH.2 _ _ a; rw [hx] at h1; cases h1; exact h3 j hj
 ·rw [hs'] at e
  by_cases ei : at' = i
  ·subst ei; rw [if_pos rfl] at e; injection e with e
   have e : k = g := by omega
   subst e; exact (h.sound H hH).1 (at', k) (by simp)
  ·rw [if_neg ei] at e; exact (h.sound H hH).2 i k e
end
def freshN (hs : List Int) : Nat := hs.countP (· == 0)
theorem freshN_set {hs : List Int} {i : Nat} (hv : hs[i]? = some 0) (v : Int) (h0 : v ≠ 0) : freshN (hs.set i v) + 1 = freshN hs := by
 unfold freshN
 induction hs generalizing i with
 | nil => simp at hv
 | cons x l ih =>
  cases i with
  | zero => simp at hv; subst hv; simp [h0]
  | succ i =>
   simp only [List.getElem?_cons_succ] at hv; have := ih hv; rw [List.set_cons_succ, List.countP_cons, List.countP_cons]; omega
def heldH (hs : List Int) (i : Nat) : Option Int := match hs[i]? with | some h => if h < 0 then none else some h | none => none
structure Pass (ps : List Pce) (I : List Ins) (hs : List Int) (ok : Bool) : Prop where
 len : hs.length = I.length
 pos : ∀ i : Nat, ∀ h, hs[i]? = some h → -1 ≤ h ∧ h ≤ 70000
 start : hs[0]? = some 0
 sound : ∀ H, Typ ps I H → ok = true ∧ ∀ i h, heldH hs i = some h → H i = some h
def goodAt (ps : List Pce) (I : List Ins) (hs : List Int) (i : Nat) : Prop := ∀ h x, heldH hs i = some h → I[i]? = some x → mayS ps x h ∧ ∀ j, j ∈ nextS i x → heldH hs j = some (outS ps x h)
theorem Pass.over {ps : List Pce} {I : List Ins} {hs : List Int} {ok : Bool} (h : Pass ps I hs ok) (hg : ok = true → ∀ i, i < I.length → goodAt ps I hs i) : IsFlow ps I ok := by
 cases ok
 ·exact flowB_no fun H hH => by have := (h.sound H hH).1; cases this
 ·refine flowB_yes (H := heldH hs) ⟨by unfold heldH; rw [h.start]; rfl, fun i g e => ?_⟩; have hl : i < I.length := by
   rw [← h.len]
   rcases Nat.lt_or_ge i hs.length with hl | hl
   ·exact hl
   ·unfold heldH at e; rw [List.getElem?_eq_none hl] at e; cases e
  obtain ⟨a, b⟩ := hg rfl i hl g I[i] e (List.getElem?_eq_getElem hl); exact ⟨I[i], List.getElem?_eq_getElem hl, a, b⟩
theorem flow_fun (ps : List Pce) : ∃ fl : Pce → Bool, ∀ p, IsFlow ps p.body (fl p) :=
 ⟨fun p => @decide (Flow ps p.body) (Classical.propDecidable _), fun p => by unfold IsFlow; simp⟩
theorem leavesS_bd (i : Ins) : 0 ≤ leavesS i ∧ leavesS i ≤ 2 := by
 unfold leavesS; split
 ·omega
 ·split <;> omega
def Few (ps : List Pce) : Prop := ∀ p, p ∈ ps → 0 ≤ p.params ∧ p.params ≤ 8
theorem takesS_bd {ps : List Pce} (hp : Few ps) (i : Ins) (h : i.op = 30 → 0 ≤ i.a ∧ i.a ≤ 8) : 0 ≤ takesS ps i ∧ takesS ps i ≤ 11 := by
 unfold takesS; split
 ·split
  ·rename_i p e
   have := hp p (List.mem_of_getElem? e); omega
  ·omega
 ·split
  ·rename_i e; have := h e; omega
  ·split
   ·omega
   ·split <;> omega
def Fit (nps : Nat) (nb : Nat) (i : Ins) : Prop := 1 ≤ i.op ∧ i.op ≤ 30 ∧ 0 ≤ i.a ∧ i.a ≤ 1099511627775 ∧ (i.op = 14 ∨ i.op = 15 → i.a < nb) ∧ (i.op = 16 → i.a < nps) ∧ (i.op = 30 → i.a ≤ 8)
theorem fitS_fit {nps nns : Nat} {p : Pce} {i : Ins} (h : fitS nps nns p i = true) (hl : p.locals ≤ 32) (hb : p.body.length ≤ 2048) (hn : nps ≤ 32) : Fit nps p.body.length i := by
 unfold fitS at h; simp only [Bool.and_eq_true, decide_eq_true_eq] at h; obtain ⟨⟨⟨⟨⟨h1, h2⟩, h3⟩, h4⟩, h5⟩, h6⟩ := h; clear h5 h6; refine ⟨h1, h2, h3, ?_, fun e => ?_, fun e => ?_, fun e => ?_⟩
 ·unfold mostS at h4
  by_cases e1 : i.op = 1
  ·rw [if_pos e1] at h4; exact h4
  rw [if_neg e1] at h4
  by_cases e2 : i.op = 3 ∨ i.op = 4
  ·rw [if_pos e2] at h4; omega
  rw [if_neg e2] at h4
  by_cases e3 : i.op = 14 ∨ i.op = 15
  ·rw [if_pos e3] at h4; omega
  rw [if_neg e3] at h4
  by_cases e4 : i.op = 16
  ·rw [if_pos e4] at h4; omega
  rw [if_neg e4] at h4
  by_cases e5 : 18 ≤ i.op ∧ i.op ≤ 21
  ·rw [if_pos e5] at h4; omega
  rw [if_neg e5] at h4
  by_cases e6 : i.op = 30
  ·rw [if_pos e6] at h4; omega
  rw [if_neg e6] at h4; omega
 ·unfold mostS at h4; rw [if_neg (by omega), if_neg (by omega), if_pos e] at h4; omega
 ·unfold mostS at h4; rw [if_neg (by omega), if_neg (by omega), if_neg (by omega), if_pos e] at h4; omega
 ·unfold mostS at h4; rw [if_neg (by omega), if_neg (by omega), if_neg (by omega), if_neg (by omega), if_neg (by omega), if_pos e] at h4; omega
def lessN (hs : List Int) : Nat := hs.countP fun h => decide (h < 0)
theorem lessN_set : ∀ {hs : List Int} {i : Nat} {v : Int}, hs[i]? = some v → v < 0 → ∀ n : Int, 0 ≤ n → lessN (hs.set i n) + 1 = lessN hs
 | [], _, _, hv, _, _, _ => by simp at hv
 | x :: l, 0, v, hv, h, n, hn => by
  simp at hv; subst hv; unfold lessN; have e1 : decide (x < 0) = true := decide_eq_true h; have e2 : decide (n < 0) = false := decide_eq_false (by omega); rw [List.set_cons_zero, List.countP_cons, List.countP_cons, e1, e2]; simp
 | x :: l, i + 1, v, hv, h, n, hn => by
  simp only [List.getElem?_cons_succ] at hv; have ih := lessN_set hv h n hn; unfold lessN at *; rw [List.set_cons_succ, List.countP_cons, List.countP_cons]; omega
def Room (I : List Ins) (hs : List Int) : Prop := ∀ i : Nat, ∀ h, hs[i]? = some h → h + 2 * (lessN hs : Int) ≤ 2 * (I.length : Int)
theorem Room.set {I : List Ins} {hs : List Int} (h : Room I hs) {j i : Nat} {v g n : Int} (hv : hs[j]? = some v) (h0 : v < 0) (hg : hs[i]? = some g) (hn : 0 ≤ n) (hl : n ≤ g + 2) : Room I (hs.set j n) := fun k x hx => by
 have hs' := lessN_set hv h0 n hn; have a := h i g hg; rw [List.getElem?_set] at hx; split at hx
 ·split at hx
  ·cases hx; omega
  ·cases hx
 ·have := h k x hx; omega
def mayB (ps : List Pce) (x : Ins) (h : Int) : Bool := decide (takesS ps x ≤ h) && decide (h ≤ 64) && (decide (x.op ≠ 17) || decide (h = 1))
theorem mayB_iff (ps : List Pce) (x : Ins) (h : Int) : mayB ps x h = true ↔ mayS ps x h := by
 unfold mayB mayS; simp only [Bool.and_eq_true, Bool.or_eq_true, decide_eq_true_eq]; constructor
 ·rintro ⟨⟨a, b⟩, c⟩; exact ⟨a, b, fun e => c.elim (fun c => absurd e c) id⟩
 ·rintro ⟨a, b, c⟩; refine ⟨⟨a, b⟩, ?_⟩
  by_cases e : x.op = 17
  ·exact .inr (c e)
  ·exact .inl e
section
variable {ps : List Pce} {I : List Ins} {hs : List Int} {ok : Bool} {i j : Nat} {g v : Int} {x : Ins}
theorem heldH_of (hg : hs[i]? = some g) (h0 : 0 ≤ g) : heldH hs i = some g := by unfold heldH; rw [hg]; simp; omega
theorem heldH_set (hj : j < hs.length) (n : Int) (hn : 0 ≤ n) (k : Nat) : heldH (hs.set j n) k = if j = k then some n else heldH hs k := by
 unfold heldH; rw [List.getElem?_set]
 by_cases e : j = k
 ·subst e; rw [if_pos rfl, if_pos hj, if_pos rfl]; simp; omega
 ·rw [if_neg e, if_neg e]
theorem Pass.chk (h : Pass ps I hs ok) (hg : heldH hs i = some g) (hx : I[i]? = some x) : Pass ps I hs (ok && mayB ps x g) :=
 ⟨h.len, h.pos, h.start, fun H hH => by
  obtain ⟨a, b⟩ := h.sound H hH; obtain ⟨y, h1, h2, _⟩ := hH.2 i g (b i g hg); rw [hx] at h1; cases h1; exact ⟨by rw [a, (mayB_iff ps x g).mpr h2]; rfl, b⟩⟩
theorem Pass.far (h : Pass ps I hs ok) (hg : heldH hs i = some g) (hx : I[i]? = some x) (hj : j ∈ nextS i x) (hl : I.length ≤ j) : Pass ps I hs false :=
 ⟨h.len, h.pos, h.start, fun H hH => by
  obtain ⟨a, b⟩ := h.sound H hH; obtain ⟨y, h1, h2, h3⟩ := hH.2 i g (b i g hg); rw [hx] at h1; cases h1; obtain ⟨z, h4, _⟩ := hH.2 j _ (h3 j hj); rw [List.getElem?_eq_none hl] at h4; cases h4⟩
theorem Pass.put (h : Pass ps I hs ok) (hr : Room I hs) (hg : heldH hs i = some g) (hx : I[i]? = some x) (hj : j ∈ nextS i x) (hv : hs[j]? = some v) (h0 : v < 0) (hn : 0 ≤ outS ps x g) (ht : 0 ≤ takesS ps x) (hI : I.length ≤ 2048) :
  Pass ps I (hs.set j (outS ps x g)) ok ∧ Room I (hs.set j (outS ps x g)) := by
 have hjl : j < hs.length := by
  rcases Nat.lt_or_ge j hs.length with hl | hl
  ·exact hl
  ·rw [List.getElem?_eq_none hl] at hv; cases hv
 have hg' : hs[i]? = some g ∧ 0 ≤ g := by
  unfold heldH at hg; split at hg
  ·rename_i q e
   split at hg
   ·cases hg
   ·rename_i e2; cases hg; exact ⟨e, by omega⟩
  ·cases hg
 have hl := leavesS_bd x; have hout : outS ps x g ≤ g + 2 := by unfold outS; omega
 have hR := hr.set hv h0 hg'.1 hn hout; refine ⟨⟨by rw [List.length_set]; exact h.len, fun k z hz => ?_, ?_, fun H hH => ?_⟩, hR⟩
 ·have h1 := hR k z hz; refine ⟨?_, by omega⟩; rw [List.getElem?_set] at hz
  by_cases e : j = k
  ·rw [if_pos e, if_pos (by omega)] at hz; cases hz; omega
  ·rw [if_neg e] at hz; exact (h.pos k z hz).1
 ·rw [List.getElem?_set, if_neg (fun e => by subst e; rw [h.start] at hv; cases hv; omega)]; exact h.start
 ·obtain ⟨a, b⟩ := h.sound H hH; refine ⟨a, fun k z hz => ?_⟩; rw [heldH_set hjl _ hn] at hz
  by_cases e : j = k
  ·subst e; rw [if_pos rfl] at hz; obtain ⟨y, h1, h2, h3⟩ := hH.2 i g (b i g hg); rw [hx] at h1; cases h1; rw [← hz]; exact h3 j hj
  ·rw [if_neg e] at hz; exact b k z hz
theorem Pass.cmp (h : Pass ps I hs ok) (hg : heldH hs i = some g) (hx : I[i]? = some x) (hj : j ∈ nextS i x) (hv : hs[j]? = some v) (h0 : v < 0 → outS ps x g < 0) : Pass ps I hs (ok && (v == outS ps x g)) :=
 ⟨h.len, h.pos, h.start, fun H hH => by
  obtain ⟨a, b⟩ := h.sound H hH; obtain ⟨y, h1, h2, h3⟩ := hH.2 i g (b i g hg); rw [hx] at h1; cases h1; have hl := leavesS_bd x; have hn : 0 ≤ outS ps x g := by unfold outS; have := h2.1; omega
  have hv0 : 0 ≤ v := by
   rcases Int.lt_or_le v 0 with hlt | hle
   ·have := h0 hlt; omega
   ·exact hle
  have h4 := b j v (heldH_of hv hv0); rw [h3 j hj] at h4; injection h4 with h4
  exact ⟨by rw [a, h4]; simp, b⟩⟩
end
theorem Pass.start_ (ps : List Pce) (I : List Ins) (h0 : 0 < I.length) : Pass ps I ((List.replicate I.length (-1)).set 0 0) true ∧ Room I ((List.replicate I.length (-1)).set 0 0) := by
 have hat : ∀ k z, ((List.replicate I.length (-1 : Int)).set 0 0)[k]? = some z → (k = 0 ∧ z = 0) ∨ z = -1 := fun k z hz => by
  rw [List.getElem?_set] at hz; split at hz
  ·split at hz
   ·cases hz; left; omega
   ·cases hz
  ·rw [List.getElem?_replicate] at hz; split at hz
   ·cases hz; exact .inr rfl
   ·cases hz
 refine ⟨⟨by simp, fun k z hz => ?_, ?_, fun H hH => ⟨rfl, fun k z hz => ?_⟩⟩, fun k z hz => ?_⟩
 ·rcases hat k z hz with ⟨_, rfl⟩ | rfl <;> omega
 ·rw [List.getElem?_set, if_pos rfl, if_pos (by simpa using h0)]
 ·unfold heldH at hz; split at hz
  ·rename_i q e
   split at hz
   ·cases hz
   ·rename_i e2
    cases hz
    rcases hat k _ e with ⟨rfl, rfl⟩ | rfl
    ·exact hH.1
    ·omega
  ·cases hz
 ·have hc : lessN ((List.replicate I.length (-1 : Int)).set 0 0) + 1 = lessN (List.replicate I.length (-1 : Int)) := lessN_set (v := -1) (by rw [List.getElem?_replicate, if_pos h0]) (by omega) 0 (by omega); have hc2 : lessN (List.replicate I.length (-1 : Int)) = I.length := by unfold lessN; rw [List.countP_replicate]; simp
  rcases hat k z hz with ⟨_, rfl⟩ | rfl <;> omega
theorem flow_none (ps : List Pce) : IsFlow ps [] false := flowB_no fun H hH => by
 obtain ⟨x, h1, _⟩ := hH.2 0 0 hH.1; simp at h1
def bigB (p : Pce) : Bool := decide (2048 < p.body.length) || decide (32 < p.locals) || decide (8 < p.params)
def badB (nps nns : Nat) (p : Pce) : Bool := decide (p.params < 0) || decide (p.locals < p.params) || !p.body.all (fitS nps nns p)
def chkS (fl : Pce → Bool) (ps : List Pce) (nns : Nat) : Int :=
 if 32 < ps.length then 3 else if ps.any bigB then 3 else if ps.any (badB ps.length nns) then 13 else if ps.all fl then 0 else 13
def jmpB (i : Ins) : Bool := decide (i.op = 14) || decide (i.op = 15)
def aimB (b : List Ins) (k : Nat) : Bool := b.any fun i => jmpB i && decide (i.a = (k : Int))
def keptN (gone : List Bool) (k : Nat) : Nat := (gone.take k).countP (!·)
def adjI (gone : List Bool) (x : Ins) : Ins := if jmpB x then { x with a := (keptN gone x.a.toNat : Nat) } else x
def pickL {α β : Type} (f : α → β) (b : List α) (gone : List Bool) : List β := (b.zip gone).filterMap fun p => if p.2 then none else some (f p.1)
def withoutL (b : List Ins) (gone : List Bool) : List Ins := pickL (adjI gone) b gone
theorem keptN_zero (gone : List Bool) : keptN gone 0 = 0 := by simp [keptN]
theorem keptN_cons (g : Bool) (gone : List Bool) (k : Nat) : keptN (g :: gone) (k + 1) = keptN gone k + (if g then 0 else 1) := by
 unfold keptN; rw [List.take_succ_cons, List.countP_cons]; cases g <;> simp
theorem keptN_succ {gone : List Bool} {k : Nat} {g : Bool} (h : gone[k]? = some g) : keptN gone (k + 1) = keptN gone k + (if g then 0 else 1) := by
 induction gone generalizing k with
 | nil => simp at h
 | cons a l ih =>
  cases k with
  | zero => simp at h; subst h; rw [keptN_cons, keptN_zero]; simp [keptN]
  | succ k => rw [List.getElem?_cons_succ] at h; rw [keptN_cons, keptN_cons, ih h]; omega
theorem keptN_out {gone : List Bool} {k : Nat} (h : gone.length ≤ k) : keptN gone (k + 1) = keptN gone k := by
 unfold keptN; rw [List.take_of_length_le (by omega), List.take_of_length_le h]
theorem keptN_step (gone : List Bool) (k : Nat) : keptN gone k ≤ keptN gone (k + 1) := by
 rcases Nat.lt_or_ge k gone.length with h | h
 ·rw [keptN_succ (List.getElem?_eq_getElem h)]; omega
 ·rw [keptN_out h]; omega
theorem keptN_mono (gone : List Bool) {j k : Nat} (h : j ≤ k) : keptN gone j ≤ keptN gone k := by
 induction h with
 | refl => exact Nat.le_refl _
 | step _ ih => exact Nat.le_trans ih (keptN_step _ _)
theorem keptN_lt {gone : List Bool} {j k : Nat} (h : j < k) (hj : gone[j]? = some false) : keptN gone j < keptN gone k := by
 have := keptN_mono gone (show j + 1 ≤ k from h); rw [keptN_succ hj] at this; simp at this; omega
theorem keptN_inj {gone : List Bool} {j k : Nat} (hj : gone[j]? = some false) (hk : gone[k]? = some false) (h : keptN gone j = keptN gone k) : j = k := by
 rcases Nat.lt_trichotomy j k with h1 | h1 | h1
 ·have := keptN_lt h1 hj; omega
 ·exact h1
 ·have := keptN_lt h1 hk; omega
theorem keptN_le (gone : List Bool) (k : Nat) : keptN gone k ≤ k := by
 unfold keptN; exact Nat.le_trans List.countP_le_length (by rw [List.length_take]; omega)
def Nxt (gone : List Bool) (t k : Nat) : Prop := t ≤ k ∧ gone[k]? = some false ∧ ∀ i, t ≤ i → i < k → gone[i]? = some true
theorem Nxt.kept {gone : List Bool} {t k : Nat} (h : Nxt gone t k) : keptN gone t = keptN gone k := by
 obtain ⟨h1, -, h3⟩ := h; obtain ⟨d, rfl⟩ := Nat.exists_eq_add_of_le h1
 induction d with
 | zero => rfl
 | succ d ih =>
  have := keptN_succ (h3 (t + d) (by omega) (by omega)); rw [show t + (d + 1) = t + d + 1 from rfl, this, ← ih (by omega) (fun i a b => h3 i a (by omega))]; simp
theorem Nxt.self {gone : List Bool} {k : Nat} (h : gone[k]? = some false) : Nxt gone k k := ⟨Nat.le_refl _, h, fun i a b => by omega⟩
section
variable {α β : Type} (f : α → β)
theorem pickL_len : ∀ (b : List α) (gone : List Bool), b.length = gone.length → (pickL f b gone).length = keptN gone gone.length
 | [], [], _ => by simp [pickL, keptN]
 | x :: b, g :: gone, h => by
  simp only [List.length_cons, Nat.add_right_cancel_iff] at h; have ih := pickL_len b gone h; rw [List.length_cons, keptN_cons, ← ih]; unfold pickL; rw [List.zip_cons_cons, List.filterMap_cons]; cases g <;> simp
theorem pickL_at : ∀ (b : List α) (gone : List Bool) (k : Nat) (x : α), gone[k]? = some false → b[k]? = some x → (pickL f b gone)[keptN gone k]? = some (f x)
 | [], _, _, _, _, h => by simp at h
 | _, [], _, _, h, _ => by simp at h
 | y :: b, g :: gone, 0, x, h, h2 => by
  simp at h h2; subst h; subst h2; simp [pickL, keptN]
 | y :: b, g :: gone, k + 1, x, h, h2 => by
  rw [List.getElem?_cons_succ] at h h2; have ih := pickL_at b gone k x h h2; rw [keptN_cons]; unfold pickL at ih ⊢
  rw [List.zip_cons_cons, List.filterMap_cons]; cases g <;> simp [ih]
theorem pickL_of : ∀ (b : List α) (gone : List Bool) (j : Nat) (y : β), (pickL f b gone)[j]? = some y → ∃ k x, gone[k]? = some false ∧ b[k]? = some x ∧ keptN gone k = j ∧ y = f x
 | [], _, _, _, h => by simp [pickL] at h
 | _ :: _, [], _, _, h => by simp [pickL] at h
 | z :: b, g :: gone, j, y, h => by
  unfold pickL at h; rw [List.zip_cons_cons, List.filterMap_cons] at h; cases g with
  | true =>
   simp only [if_true] at h; obtain ⟨k, x, h1, h2, h3, h4⟩ := pickL_of b gone j y h; exact ⟨k + 1, x, by simpa using h1, by simpa using h2, by rw [keptN_cons]; simpa using h3, h4⟩
  | false =>
   simp only [Bool.false_eq_true, if_false] at h; cases j with
   | zero => simp at h; exact ⟨0, z, rfl, rfl, keptN_zero _, h.symm⟩
   | succ j =>
    rw [List.getElem?_cons_succ] at h; obtain ⟨k, x, h1, h2, h3, h4⟩ := pickL_of b gone j y h; exact ⟨k + 1, x, by simpa using h1, by simpa using h2, by rw [keptN_cons]; simpa using h3, h4⟩
theorem pickL_snoc (b : List α) (gone : List Bool) (k : Nat) (hl : b.length = gone.length) (hk : k < b.length) : pickL f (b.take (k + 1)) (gone.take (k + 1)) = pickL f (b.take k) (gone.take k) ++ (if gone[k]'(hl ▸ hk) then [] else [f b[k]]) := by
 have hk2 : k < gone.length := hl ▸ hk; unfold pickL; rw [List.take_succ_eq_append_getElem hk, List.take_succ_eq_append_getElem hk2, List.zip_append (by simp; omega), List.filterMap_append]
 congr 1
 simp only [List.zip_cons_cons, List.zip_nil_right, List.filterMap_cons, List.filterMap_nil]; cases gone[k] <;> simp
end
theorem keptN_none (n k : Nat) (h : k ≤ n) : keptN (List.replicate n false) k = k := by
 unfold keptN; rw [List.take_replicate, List.countP_replicate]; simp; omega
theorem without_none (b : List Ins) (h : ∀ x ∈ b, jmpB x = true → 0 ≤ x.a ∧ x.a ≤ (b.length : Int)) : withoutL b (List.replicate b.length false) = b := by
 have hf : ∀ x ∈ b, adjI (List.replicate b.length false) x = x := fun x hx => by
  unfold adjI; split
  ·next hj =>
   obtain ⟨h1, h2⟩ := h x hx hj; rw [keptN_none _ _ (by omega)]; obtain ⟨o, a, c⟩ := x; simp only [Ins.mk.injEq, true_and, and_true] at *; omega
  ·rfl
 unfold withoutL; generalize adjI (List.replicate b.length false) = f at hf; clear h
 induction b with
 | nil => simp [pickL]
 | cons x l ih =>
  unfold pickL at ih ⊢
  rw [List.length_cons, List.replicate_succ, List.zip_cons_cons, List.filterMap_cons]; simp only [Bool.false_eq_true, if_false]; rw [ih fun y hy => hf y (List.mem_cons_of_mem _ hy), hf x (List.mem_cons_self ..)]
def chase (b : List Ins) : Nat → Nat → Nat
 | 0, t => t
 | n + 1, t => match b[t]? with
  | some x => if x.op = 14 then chase b n x.a.toNat else t
  | none => t
def threadI (b : List Ins) (x : Ins) : Ins :=
 if jmpB x then
  match b[chase b b.length x.a.toNat]? with
  | some y => if y.op = 14 then x else { x with a := (chase b b.length x.a.toNat : Nat) }
  | none => x
 else x
def threadL (b : List Ins) : List Ins := b.map (threadI b)
inductive Way (b : List Ins) : Nat → Prop
 | start : Way b 0
 | step {i j : Nat} {x : Ins} (h : Way b i) (hx : b[i]? = some x) (hj : j ∈ nextS i x) : Way b j
noncomputable def goneL (b : List Ins) : List Bool := (List.range b.length).map fun k => @decide (¬ Way b k) (Classical.propDecidable _)
noncomputable def dropL (b : List Ins) : List Ins := withoutL b (goneL b)
def sumS (op a b : Int) : Option Int :=
 if op = 5 then (if a + b ≤ 1099511627775 then some (a + b) else none)
 else if op = 6 then (if b ≤ a then some (a - b) else none)
 else if op = 7 then (if a ≠ 0 ∧ Int.tdiv 1099511627775 a < b then none else some (a * b))
 else if op = 8 then (if b = 0 then none else some (a.tdiv b))
 else if op = 9 then (if b = 0 then none else some (a.tmod b))
 else if op = 10 then some (if a = b then 1 else 0)
 else if op = 11 then some (if a < b then 1 else 0)
 else if op = 12 then some (if b < a then 1 else 0)
 else none
structure Edit where
 w : Nat
 new : Option Ins
def marks (n i w : Nat) : List Bool := (List.range n).map fun k => decide (i ≤ k) && decide (k < i + w)
def Edit.out (e : Edit) (b : List Ins) (i : Nat) : List Ins := match e.new with | some x => b.set (i + e.w) x | none => b
def Edit.run (e : Edit) (b : List Ins) (i : Nat) : List Ins := withoutL (e.out b i) (marks b.length i e.w)
def foldAt (b : List Ins) (i : Nat) : Option Edit :=
 match b[i]?, b[i + 1]? with
 | some x, some y =>
  if x.op = 1 ∧ aimB b (i + 1) = false then
   if y.op = 13 then some ⟨1, some ⟨1, if x.a = 0 then 1 else 0, 0⟩⟩
   else if y.op = 1 ∧ aimB b (i + 2) = false then
    match b[i + 2]? with
    | some z => (sumS z.op x.a y.a).map fun n => ⟨2, some ⟨1, n, 0⟩⟩
    | none => none
   else none
  else none
 | _, _ => none
def settleAt (b : List Ins) (i : Nat) : Option Edit :=
 match b[i]?, b[i + 1]? with
 | some x, some y =>
  if x.op = 1 ∧ y.op = 15 ∧ aimB b (i + 1) = false then
   if x.a = 0 then some ⟨1, some ⟨14, y.a, y.b⟩⟩ else some ⟨2, none⟩
  else none
 | _, _ => none
def idleB (x : Ins) : Bool := decide (x.op = 1) || decide (x.op = 3) || decide (x.op = 22) || decide (x.op = 24)
def loseAt (b : List Ins) (i : Nat) : Option Edit :=
 match b[i]? with
 | some x =>
  if x.op = 14 ∧ x.a = (i : Int) + 1 then some ⟨1, none⟩
  else match b[i + 1]? with
   | some y => if idleB x = true ∧ y.op = 2 ∧ aimB b (i + 1) = false then some ⟨2, none⟩ else none
   | none => none
 | none => none
def editL (f : List Ins → Nat → Option Edit) (b : List Ins) : List Ins :=
 match (List.range b.length).findSome? fun i => (f b i).map fun e => e.run b i with
 | some c => c
 | none => b
def foldL (b : List Ins) : List Ins := editL foldAt b
def settleL (b : List Ins) : List Ins := editL settleAt b
def loseL (b : List Ins) : List Ins := editL loseAt b
noncomputable def roundL (b : List Ins) : List Ins := loseL (settleL (foldL (dropL (threadL b))))
def Fixed (b : List Ins) : Prop := threadL b = b ∧ dropL b = b ∧ foldL b = b ∧ settleL b = b ∧ loseL b = b
def mostL (nps : Nat) (loc : Int) (len : Nat) (i : Ins) : Int :=
 if i.op = 1 then 1099511627775
 else if i.op = 3 ∨ i.op = 4 then loc - 1
 else if i.op = 14 ∨ i.op = 15 then (len : Int) - 1
 else if i.op = 16 then (nps : Int) - 1
 else if 18 ≤ i.op ∧ i.op ≤ 21 then 31
 else if i.op = 30 then 8
 else 0
def fitL (nps nns : Nat) (loc : Int) (len : Nat) (i : Ins) : Bool :=
 decide (1 ≤ i.op) && decide (i.op ≤ 30) && decide (0 ≤ i.a) && decide (i.a ≤ mostL nps loc len i) && decide (0 ≤ i.b) && decide (i.b ≤ if i.op = 30 then (nns : Int) - 1 else 0)
theorem fitL_iff {nps nns : Nat} {loc : Int} {len : Nat} {i : Ins} : fitL nps nns loc len i = true ↔ 1 ≤ i.op ∧ i.op ≤ 30 ∧ 0 ≤ i.a ∧ i.a ≤ mostL nps loc len i ∧ 0 ≤ i.b ∧ i.b ≤ if i.op = 30 then (nns : Int) - 1 else 0 := by
 unfold fitL; simp only [Bool.and_eq_true, decide_eq_true_eq, and_assoc]
theorem jmpB_iff {i : Ins} : jmpB i = true ↔ i.op = 14 ∨ i.op = 15 := by
 unfold jmpB; simp
theorem mostL_jump {nps : Nat} {loc : Int} {len : Nat} {i : Ins} (h : jmpB i = true) : mostL nps loc len i = (len : Int) - 1 := by
 have h := jmpB_iff.1 h; unfold mostL; rw [if_neg (by omega), if_neg (by omega), if_pos h]
theorem mostL_len {nps : Nat} {loc : Int} {i : Ins} (h : jmpB i = false) (len len' : Nat) : mostL nps loc len i = mostL nps loc len' i := by
 have h : ¬ (i.op = 14 ∨ i.op = 15) := fun e => by rw [jmpB_iff.2 e] at h; cases h
 unfold mostL; rw [if_neg h, if_neg h]
theorem fitL_jump {nps nns : Nat} {loc : Int} {len : Nat} {i : Ins} (h : fitL nps nns loc len i = true) (hj : jmpB i = true) : 0 ≤ i.a ∧ i.a < (len : Int) ∧ i.a.toNat < len := by
 have := fitL_iff.1 h; rw [mostL_jump hj] at this; omega
theorem fitL_push {nps nns : Nat} {loc : Int} {len : Nat} {i : Ins} (h : fitL nps nns loc len i = true) (hj : i.op = 1) : 0 ≤ i.a ∧ i.a ≤ 1099511627775 := by
 have := fitL_iff.1 h; unfold mostL at this; rw [if_pos hj] at this; omega
theorem fitL_goto {nps nns : Nat} {loc : Int} {len len' : Nat} {i : Ins} (h : fitL nps nns loc len i = true) (hj : jmpB i = true) {n : Nat} (hn : n < len') : fitL nps nns loc len' { i with a := (n : Int) } = true := by
 have h := fitL_iff.1 h; refine fitL_iff.2 ⟨h.1, h.2.1, by simp, ?_, h.2.2.2.2.1, h.2.2.2.2.2⟩; rw [mostL_jump (by exact hj)]; simp; omega
theorem fitL_more {nps nns : Nat} {loc : Int} {len : Nat} {i : Ins} (h : fitL nps nns loc len i = true) (hj : jmpB i = false) (len' : Nat) : fitL nps nns loc len' i = true := by
 have h := fitL_iff.1 h; exact fitL_iff.2 ⟨h.1, h.2.1, h.2.2.1, by rw [mostL_len hj len' len]; exact h.2.2.2.1, h.2.2.2.2.1, h.2.2.2.2.2⟩
theorem fitL_num (nps nns : Nat) (loc : Int) (len : Nat) {n : Int} (h : 0 ≤ n ∧ n ≤ 1099511627775) : fitL nps nns loc len ⟨1, n, 0⟩ = true := by
 refine fitL_iff.2 ⟨by simp, by simp, h.1, ?_, by simp, by simp⟩; unfold mostL; simp; omega
theorem takes_goto {ps : List Pce} {x : Ins} (h : jmpB x = true) (n : Int) : takesS ps { x with a := n } = takesS ps x := by
 have h := jmpB_iff.1 h; obtain ⟨o, a, c⟩ := x; simp only at h
 rcases h with rfl | rfl <;> simp [takesS]
theorem may_goto {ps : List Pce} {x : Ins} (h : jmpB x = true) (n : Int) (g : Int) : mayS ps { x with a := n } g ↔ mayS ps x g := by
 unfold mayS; rw [takes_goto h]
theorem out_goto {ps : List Pce} {x : Ins} (h : jmpB x = true) (n : Int) (g : Int) : outS ps { x with a := n } g = outS ps x g := by
 unfold outS; rw [takes_goto h]; rfl
theorem may_adj {ps : List Pce} (gone : List Bool) (x : Ins) (g : Int) : mayS ps (adjI gone x) g ↔ mayS ps x g := by
 unfold adjI; split
 ·next h => exact may_goto h _ _
 ·exact Iff.rfl
theorem out_adj {ps : List Pce} (gone : List Bool) (x : Ins) (g : Int) : outS ps (adjI gone x) g = outS ps x g := by
 unfold adjI; split
 ·next h => exact out_goto h _ _
 ·rfl
theorem op_adj (gone : List Bool) (x : Ins) : (adjI gone x).op = x.op := by
 unfold adjI; split <;> rfl
theorem next_adj {gone : List Bool} {k : Nat} (hk : gone[k]? = some false) (x : Ins) : nextS (keptN gone k) (adjI gone x) = (nextS k x).map (keptN gone) := by
 have hs : keptN gone (k + 1) = keptN gone k + 1 := by rw [keptN_succ hk]; simp
 unfold nextS; rw [op_adj, List.map_append]
 congr 1
 ·split
  ·next h =>
   have : jmpB x = true := jmpB_iff.2 h; unfold adjI; rw [if_pos this]; simp
  ·rfl
 ·split
  ·simp [hs]
  ·rfl
theorem mem_next {k t : Nat} {x : Ins} : t ∈ nextS k x ↔ (jmpB x = true ∧ t = x.a.toNat) ∨ (x.op ≠ 14 ∧ x.op ≠ 17 ∧ t = k + 1) := by
 unfold nextS; rw [List.mem_append]; constructor
 ·rintro (h | h)
  ·split at h
   ·next e => simp at h; exact .inl ⟨jmpB_iff.2 e, h⟩
   ·simp at h
  ·split at h
   ·next e => simp at h; exact .inr ⟨e.1, e.2, h⟩
   ·simp at h
 ·rintro (⟨h, e⟩ | ⟨h1, h2, e⟩)
  ·left; rw [if_pos (jmpB_iff.1 h), e]; simp
  ·right; rw [if_pos ⟨h1, h2⟩, e]; simp
theorem Typ.lt {ps : List Pce} {I : List Ins} {H : Nat → Option Int} (h : Typ ps I H) {i : Nat} {g : Int} (e : H i = some g) : i < I.length := by
 obtain ⟨x, hx, _⟩ := h.2 i g e
 rcases Nat.lt_or_ge i I.length with hl | hl
 ·exact hl
 ·rw [List.getElem?_eq_none hl] at hx; cases hx
theorem lt_of_some {α : Type} {l : List α} {k : Nat} {x : α} (h : l[k]? = some x) : k < l.length := by
 rcases Nat.lt_or_ge k l.length with hl | hl
 ·exact hl
 ·rw [List.getElem?_eq_none hl] at h; cases h
theorem without_flow {ps : List Pce} {out : List Ins} {gone : List Bool} (hl : out.length = gone.length) {H : Nat → Option Int} (h0 : ∃ k, Nxt gone 0 k ∧ H k = some 0)
  (hs : ∀ (k : Nat) (x : Ins) (g : Int), gone[k]? = some false → out[k]? = some x → H k = some g → mayS ps x g ∧ ∀ t, t ∈ nextS k x → ∃ k', Nxt gone t k' ∧ H k' = some (outS ps x g)) : Flow ps (withoutL out gone) := by
 classical
 obtain ⟨G, hG⟩ : ∃ G : Nat → Option Int, G = fun j => if h : ∃ k, gone[k]? = some false ∧ keptN gone k = j then H h.choose else none := ⟨_, rfl⟩
 have hG1 : ∀ k, gone[k]? = some false → G (keptN gone k) = H k := fun k hk => by
  have hex : ∃ k', gone[k']? = some false ∧ keptN gone k' = keptN gone k := ⟨k, hk, rfl⟩
  rw [hG]; simp only; rw [dif_pos hex]; have := hex.choose_spec; rw [keptN_inj this.1 hk this.2]
 have hG2 : ∀ j g, G j = some g → ∃ k, gone[k]? = some false ∧ keptN gone k = j ∧ H k = some g := fun j g e => by
  rw [hG] at e; simp only at e; split at e
  ·next h => exact ⟨h.choose, h.choose_spec.1, h.choose_spec.2, e⟩
  ·cases e
 clear hG; refine ⟨G, ?_, fun j g e => ?_⟩
 ·obtain ⟨k, hn, hk⟩ := h0; have := hn.kept; rw [keptN_zero] at this; rw [this, hG1 k hn.2.1]; exact hk
 ·obtain ⟨k, hk, rfl, hH⟩ := hG2 j g e; have hlt : k < out.length := by rw [hl]; exact lt_of_some hk
  obtain ⟨h1, h2⟩ := hs k out[k] g hk (List.getElem?_eq_getElem hlt) hH; refine ⟨adjI gone out[k], pickL_at _ _ _ _ _ hk (List.getElem?_eq_getElem hlt), (may_adj _ _ _).2 h1, fun j hj => ?_⟩; rw [next_adj hk] at hj; obtain ⟨t, ht, rfl⟩ := List.mem_map.1 hj; obtain ⟨k', hn, hk'⟩ := h2 t ht; rw [hn.kept, hG1 k' hn.2.1, out_adj]; exact hk'
theorem without_len {out : List Ins} {gone : List Bool} (hl : out.length = gone.length) : (withoutL out gone).length = keptN gone out.length := by
 unfold withoutL; rw [pickL_len _ _ _ hl, hl]
theorem without_fit {nps nns : Nat} {loc : Int} {out : List Ins} {gone : List Bool} (hl : out.length = gone.length) (hf : ∀ x, x ∈ out → fitL nps nns loc out.length x = true)
  (hj : ∀ (k : Nat) (x : Ins), gone[k]? = some false → out[k]? = some x → jmpB x = true → ∃ k', x.a.toNat ≤ k' ∧ gone[k']? = some false) : ∀ y, y ∈ withoutL out gone → fitL nps nns loc (withoutL out gone).length y = true := by
 intro y hy; obtain ⟨j, hj', rfl⟩ := List.getElem_of_mem hy; obtain ⟨k, x, hk, hx, -, e⟩ := pickL_of (adjI gone) out gone j _ (List.getElem?_eq_getElem hj'); rw [show (withoutL out gone)[j] = adjI gone x from e, without_len hl]; have h := hf x (List.mem_of_getElem? hx); unfold adjI; split
 ·next hb =>
  obtain ⟨k', h1, h2⟩ := hj k x hk hx hb; refine fitL_goto h hb ?_; have h3 := keptN_mono gone h1; have h4 := keptN_lt (show k' < out.length by rw [hl]; exact lt_of_some h2) h2; omega
 ·next hb => exact fitL_more h (by simpa using hb) _
structure Good (ps : List Pce) (nns : Nat) (loc : Int) (b : List Ins) : Prop where
 fit : ∀ x, x ∈ b → fitL ps.length nns loc b.length x = true
 flow : Flow ps b
def LastJ (b : List Ins) : Prop := ∃ x, b[b.length - 1]? = some x ∧ (x.op = 14 ∨ x.op = 17)
theorem marks_len (n i w : Nat) : (marks n i w).length = n := by simp [marks]
theorem marks_at {n i w k : Nat} (h : k < n) : (marks n i w)[k]? = some (decide (i ≤ k) && decide (k < i + w)) := by
 unfold marks; rw [List.getElem?_map, List.getElem?_range h]; rfl
theorem marks_yes {n i w k : Nat} (h : k < n) (h1 : i ≤ k) (h2 : k < i + w) : (marks n i w)[k]? = some true := by
 rw [marks_at h]; simp [h1, h2]
theorem marks_no {n i w k : Nat} (h : k < n) (h1 : k < i ∨ i + w ≤ k) : (marks n i w)[k]? = some false := by
 rw [marks_at h]
 rcases h1 with h1 | h1
 ·rw [decide_eq_false (by omega)]; rfl
 ·rw [decide_eq_false (show ¬ k < i + w by omega), Bool.and_false]
theorem marks_kept {n i w k : Nat} (h : (marks n i w)[k]? = some false) : k < n ∧ (k < i ∨ i + w ≤ k) := by
 have hl := lt_of_some h; rw [marks_len] at hl; refine ⟨hl, ?_⟩
 by_cases h1 : k < i
 ·exact .inl h1
 ·by_cases h2 : i + w ≤ k
  ·exact .inr h2
  ·rw [marks_yes hl (by omega) (by omega)] at h; cases h
theorem aimB_no {b : List Ins} {t : Nat} (h : aimB b t = false) {x : Ins} (hx : x ∈ b) (hj : jmpB x = true) (e : x.a = (t : Int)) : False := by
 unfold aimB at h; rw [List.any_eq_false] at h; exact h x hx (by rw [hj, e]; simp)
section
variable {ps : List Pce} {b : List Ins}
theorem editA_flow {H : Nat → Option Int} (hT : Typ ps b H) {i w : Nat} {new : Ins} (hm : i + w < b.length) (hw : 0 < w) (hno : ∀ t, i < t → t ≤ i + w → aimB b t = false)
  (hnew : ∀ g, H i = some g → mayS ps new g ∧ ∀ t, t ∈ nextS (i + w) new → (t ≤ i ∨ i + w < t) ∧ H t = some (outS ps new g)) : Flow ps (withoutL (b.set (i + w) new) (marks b.length i w)) := by
 have land : ∀ t g, H t = some g → (t ≤ i ∨ i + w < t) → ∃ k', Nxt (marks b.length i w) t k' ∧ (if k' = i + w then H i else H k') = some g := fun t g e ht => by
  have hl := hT.lt e
  by_cases h : t = i
  ·subst h; exact ⟨t + w, ⟨by omega, marks_no hm (.inr (Nat.le_refl _)), fun j h1 h2 => marks_yes (by omega) h1 h2⟩, by rw [if_pos rfl]; exact e⟩
  ·exact ⟨t, Nxt.self (marks_no hl (by omega)), by rw [if_neg (by omega)]; exact e⟩
 refine without_flow (H := fun k => if k = i + w then H i else H k) (by rw [List.length_set, marks_len]) (land 0 0 hT.1 (.inl (Nat.zero_le _))) fun k x g hk hx hg => ?_
 obtain ⟨hkl, hki⟩ := marks_kept hk
 by_cases h : k = i + w
 ·subst h; rw [List.getElem?_set_self hm] at hx; injection hx with hx
  subst hx; rw [if_pos rfl] at hg; obtain ⟨h1, h2⟩ := hnew g hg; exact ⟨h1, fun t ht => by obtain ⟨h3, h4⟩ := h2 t ht; exact land t _ h4 h3⟩
 ·rw [List.getElem?_set_ne (fun e => h e.symm)] at hx; rw [if_neg h] at hg; obtain ⟨y, hy, h1, h2⟩ := hT.2 k g hg; rw [hx] at hy; injection hy with hy
  subst hy; refine ⟨h1, fun t ht => land t _ (h2 t ht) ?_⟩
  rcases Nat.lt_or_ge i t with h3 | h3
  ·rcases Nat.lt_or_ge (i + w) t with h4 | h4
   ·exact .inr h4
   ·exfalso
    rcases mem_next.1 ht with ⟨hj, e⟩ | ⟨_, _, e⟩
    ·exact aimB_no (hno t h3 h4) (List.mem_of_getElem? hx) hj (by omega)
    ·omega
  ·exact .inl h3
theorem editB_flow {H : Nat → Option Int} (hT : Typ ps b H) {i w : Nat} (hw : 0 < w) (hno : ∀ t, i < t → t < i + w → aimB b t = false)
  (heff : ∀ g, H i = some g → H (i + w) = some g) : Flow ps (withoutL b (marks b.length i w)) := by
 have land : ∀ t g, H t = some g → (t ≤ i ∨ i + w ≤ t) → ∃ k', Nxt (marks b.length i w) t k' ∧ H k' = some g := fun t g e ht => by
  have hl := hT.lt e
  by_cases h : t = i
  ·subst h; have e2 := heff g e; have hm := hT.lt e2; exact ⟨t + w, ⟨by omega, marks_no hm (.inr (Nat.le_refl _)), fun j h1 h2 => marks_yes (by omega) h1 h2⟩, e2⟩
  ·exact ⟨t, Nxt.self (marks_no hl (by omega)), e⟩
 refine without_flow (H := H) (by rw [marks_len]) (land 0 0 hT.1 (.inl (Nat.zero_le _))) fun k x g hk hx hg => ?_
 obtain ⟨hkl, hki⟩ := marks_kept hk; obtain ⟨y, hy, h1, h2⟩ := hT.2 k g hg; rw [hx] at hy; injection hy with hy
 subst hy; refine ⟨h1, fun t ht => land t _ (h2 t ht) ?_⟩
 rcases Nat.lt_or_ge i t with h3 | h3
 ·rcases Nat.lt_or_ge t (i + w) with h4 | h4
  ·exfalso
   rcases mem_next.1 ht with ⟨hj, e⟩ | ⟨_, _, e⟩
   ·exact aimB_no (hno t h3 h4) (List.mem_of_getElem? hx) hj (by omega)
   ·omega
  ·exact .inr h4
 ·exact .inl h3
end
theorem keptN_add (gone : List Bool) (k d : Nat) : keptN gone (k + d) ≤ keptN gone k + d := by
 induction d with
 | zero => exact Nat.le_refl _
 | succ d ih =>
  have : keptN gone (k + d + 1) ≤ keptN gone (k + d) + 1 := by
   rcases Nat.lt_or_ge (k + d) gone.length with h | h
   ·rw [keptN_succ (List.getElem?_eq_getElem h)]; split <;> omega
   ·rw [keptN_out h]; omega
  rw [← Nat.add_assoc]; omega
theorem without_lt {out : List Ins} {gone : List Bool} (hl : out.length = gone.length) {k : Nat} (hk : gone[k]? = some true) : (withoutL out gone).length < out.length := by
 have hlt := lt_of_some hk; rw [without_len hl]; have h1 := keptN_succ hk; have h2 := keptN_le gone k; have h3 := keptN_add gone (k + 1) (out.length - (k + 1)); rw [show k + 1 + (out.length - (k + 1)) = out.length by omega, h1] at h3; simp at h3; omega
theorem without_last {out : List Ins} {gone : List Bool} (hl : out.length = gone.length) (h : LastJ out) (hg : gone[out.length - 1]? = some false) : LastJ (withoutL out gone) := by
 obtain ⟨x, hx, ho⟩ := h; have hlt := lt_of_some hx; refine ⟨adjI gone x, ?_, by rw [op_adj]; exact ho⟩; have := keptN_succ hg; rw [show out.length - 1 + 1 = out.length by omega] at this; rw [without_len hl, this]; simp only [Bool.false_eq_true, if_false, Nat.add_sub_cancel]; exact pickL_at _ _ _ _ _ hg hx
structure EditOk (ps : List Pce) (nns : Nat) (loc : Int) (b : List Ins) (i : Nat) (e : Edit) : Prop where
 w : 0 < e.w
 lt : i + e.w < b.length
 flow : Flow ps (e.run b i)
 fit : ∀ x, e.new = some x → fitL ps.length nns loc b.length x = true
 last : ∀ x, e.new = some x → i + e.w + 1 < b.length
theorem Edit.out_len (e : Edit) (b : List Ins) (i : Nat) : (e.out b i).length = b.length := by
 unfold Edit.out; split
 ·rw [List.length_set]
 ·rfl
section
variable {ps : List Pce} {nns : Nat} {loc : Int} {b : List Ins} {i : Nat} {e : Edit}
theorem EditOk.shorter (h : EditOk ps nns loc b i e) : (e.run b i).length < b.length := by
 have h1 : (marks b.length i e.w)[i]? = some true := marks_yes (by have := h.lt; omega) (Nat.le_refl _) (by have := h.w; omega); have := without_lt (out := e.out b i) (by rw [e.out_len, marks_len]) h1; rw [e.out_len] at this; exact this
theorem EditOk.lastJ (h : EditOk ps nns loc b i e) (hl : LastJ b) : LastJ (e.run b i) := by
 have hn : 0 < b.length := by have := h.lt; omega
 refine without_last (by rw [e.out_len, marks_len]) ?_ ?_
 ·unfold LastJ; rw [e.out_len]; obtain ⟨x, hx, ho⟩ := hl; refine ⟨x, ?_, ho⟩; unfold Edit.out; split
  ·next y hy =>
   have := h.last y hy; rw [List.getElem?_set_ne (by omega)]; exact hx
  ·exact hx
 ·rw [e.out_len]; exact marks_no (by omega) (by have := h.lt; omega)
theorem EditOk.good (h : EditOk ps nns loc b i e) (hg : Good ps nns loc b) : Good ps nns loc (e.run b i) := by
 refine ⟨?_, h.flow⟩; have hn : 0 < b.length := by have := h.lt; omega
 refine without_fit (by rw [e.out_len, marks_len]) ?_ fun k x hk hx hj => ?_
 ·rw [e.out_len]; intro x hx; unfold Edit.out at hx; split at hx
  ·next y hy =>
   rcases List.mem_or_eq_of_mem_set hx with hx | rfl
   ·exact hg.fit x hx
   ·exact h.fit _ hy
  ·exact hg.fit x hx
 ·have hf : fitL ps.length nns loc b.length x = true := by
   have hx := List.mem_of_getElem? hx; unfold Edit.out at hx; split at hx
   ·next y hy =>
    rcases List.mem_or_eq_of_mem_set hx with hx | rfl
    ·exact hg.fit x hx
    ·exact h.fit _ hy
   ·exact hg.fit x hx
  have := fitL_jump hf hj; exact ⟨b.length - 1, by omega, marks_no (by omega) (by have := h.lt; omega)⟩
end
theorem edit_ok {ps : List Pce} {nns : Nat} {loc : Int} {b : List Ins} {f : List Ins → Nat → Option Edit} (hg : Good ps nns loc b) (hl : LastJ b) (hf : ∀ i e, f b i = some e → EditOk ps nns loc b i e) :
  Good ps nns loc (editL f b) ∧ LastJ (editL f b) ∧ (editL f b = b ∨ (editL f b).length < b.length) := by
 unfold editL; split
 ·next c hc =>
  obtain ⟨i, -, hi⟩ := List.exists_of_findSome?_eq_some hc; rw [Option.map_eq_some_iff] at hi; obtain ⟨e, he, rfl⟩ := hi; have h := hf i e he; exact ⟨h.good hg, h.lastJ hl, .inr h.shorter⟩
 ·exact ⟨hg, hl, .inl rfl⟩
theorem edit_none {ps : List Pce} {nns : Nat} {loc : Int} {b : List Ins} {f : List Ins → Nat → Option Edit} (hf : ∀ i e, f b i = some e → EditOk ps nns loc b i e) (h : editL f b = b) : ∀ i, i < b.length → f b i = none := by
 intro i hi; unfold editL at h; split at h
 ·next c hc =>
  obtain ⟨j, -, hj⟩ := List.exists_of_findSome?_eq_some hc; rw [Option.map_eq_some_iff] at hj; obtain ⟨e, he, hr⟩ := hj; have := (hf j e he).shorter; rw [hr, h] at this; omega
 ·next hn =>
  rw [List.findSome?_eq_none_iff] at hn; have := hn i (List.mem_range.2 hi); rw [Option.map_eq_none_iff] at this; exact this
theorem sumS_op {op a b n : Int} (h : sumS op a b = some n) : 5 ≤ op ∧ op ≤ 12 := by
 unfold sumS at h
 by_cases h5 : op = 5
 ·omega
 rw [if_neg h5] at h
 by_cases h6 : op = 6
 ·omega
 rw [if_neg h6] at h
 by_cases h7 : op = 7
 ·omega
 rw [if_neg h7] at h
 by_cases h8 : op = 8
 ·omega
 rw [if_neg h8] at h
 by_cases h9 : op = 9
 ·omega
 rw [if_neg h9] at h
 by_cases h10 : op = 10
 ·omega
 rw [if_neg h10] at h
 by_cases h11 : op = 11
 ·omega
 rw [if_neg h11] at h
 by_cases h12 : op = 12
 ·omega
 rw [if_neg h12] at h; cases h
theorem sumS_bd {op a b n : Int} (h : sumS op a b = some n) (ha : 0 ≤ a ∧ a ≤ 1099511627775) (hb : 0 ≤ b ∧ b ≤ 1099511627775) : 0 ≤ n ∧ n ≤ 1099511627775 := by
 unfold sumS at h
 by_cases h5 : op = 5
 ·rw [if_pos h5] at h; split at h
  ·injection h with h; omega
  ·cases h
 rw [if_neg h5] at h
 by_cases h6 : op = 6
 ·rw [if_pos h6] at h; split at h
  ·injection h with h; omega
  ·cases h
 rw [if_neg h6] at h
 by_cases h7 : op = 7
 ·rw [if_pos h7] at h; split at h
  ·cases h
  ·next hc =>
   injection h with h
   subst h; refine ⟨Int.mul_nonneg ha.1 hb.1, ?_⟩
   by_cases h0 : a = 0
   ·subst h0; simp
   ·have hb2 : b ≤ Int.tdiv 1099511627775 a := Int.not_lt.1 fun h => hc ⟨h0, h⟩
    have hp : 0 < a := by omega
    rw [Int.tdiv_eq_ediv_of_nonneg (by omega)] at hb2; have := (Int.le_ediv_iff_mul_le hp).1 hb2; rw [Int.mul_comm]; exact this
 rw [if_neg h7] at h
 by_cases h8 : op = 8
 ·rw [if_pos h8] at h; split at h
  ·cases h
  ·injection h with h
   subst h; have h1 : 0 ≤ a.tdiv b := Int.tdiv_nonneg ha.1 hb.1; have h2 : a.tdiv b ≤ a := Int.tdiv_le_self b ha.1; omega
 rw [if_neg h8] at h
 by_cases h9 : op = 9
 ·rw [if_pos h9] at h; split at h
  ·cases h
  ·next h0 =>
   injection h with h
   subst h; have h1 : 0 ≤ a.tmod b := Int.tmod_nonneg b ha.1; have h2 : a.tmod b < b := Int.tmod_lt_of_pos a (by omega); omega
 rw [if_neg h9] at h; have hd : ∀ c : Prop, [Decidable c] → some (if c then (1 : Int) else 0) = some n → 0 ≤ n ∧ n ≤ 1099511627775 := fun c _ h => by
  injection h with h
  split at h <;> omega
 by_cases h10 : op = 10
 ·rw [if_pos h10] at h; exact hd _ h
 rw [if_neg h10] at h
 by_cases h11 : op = 11
 ·rw [if_pos h11] at h; exact hd _ h
 rw [if_neg h11] at h
 by_cases h12 : op = 12
 ·rw [if_pos h12] at h; exact hd _ h
 rw [if_neg h12] at h; cases h
section
variable {ps : List Pce} {x : Ins}
theorem eff_push (h : x.op = 1) (g : Int) : outS ps x g = g + 1 ∧ takesS ps x = 0 := by
 unfold outS takesS leavesS; rw [h]; simp
theorem eff_idle (h : idleB x = true) (g : Int) : outS ps x g = g + 1 ∧ takesS ps x = 0 ∧ x.op ≠ 14 ∧ x.op ≠ 17 := by
 unfold idleB at h; simp only [Bool.or_eq_true, decide_eq_true_eq] at h; unfold outS takesS leavesS
 rcases h with ((h | h) | h) | h <;> rw [h] <;> simp
theorem eff_pop (h : x.op = 2) (g : Int) : outS ps x g = g - 1 := by
 unfold outS takesS leavesS; rw [h]; simp
theorem eff_flip (h : x.op = 13) (g : Int) : outS ps x g = g := by
 unfold outS takesS leavesS; rw [h]; simp
theorem eff_jump (h : x.op = 14) (g : Int) : outS ps x g = g ∧ takesS ps x = 0 := by
 unfold outS takesS leavesS; rw [h]; simp
theorem eff_zero (h : x.op = 15) (g : Int) : outS ps x g = g - 1 := by
 unfold outS takesS leavesS; rw [h]; simp
theorem eff_two (h : 5 ≤ x.op ∧ x.op ≤ 12) (g : Int) : outS ps x g = g - 1 := by
 unfold outS takesS leavesS; rw [if_neg (by omega), if_neg (by omega), if_neg (by omega), if_neg (by omega), if_neg (by omega), if_neg (by omega)]; omega
end
section
variable {ps : List Pce} {nns : Nat} {loc : Int} {b : List Ins} {H : Nat → Option Int} {i' : Nat}
theorem Typ.go (hT : Typ ps b H) {i : Nat} {x : Ins} (hx : b[i]? = some x) (h14 : x.op ≠ 14) (h17 : x.op ≠ 17) {g : Int} (e : H i = some g) : H (i + 1) = some (outS ps x g) := by
 obtain ⟨y, hy, _, h⟩ := hT.2 i g e; rw [hx] at hy; injection hy with hy; subst hy
 exact h _ (mem_next.2 (.inr ⟨h14, h17, rfl⟩))
theorem Typ.jump (hT : Typ ps b H) {i : Nat} {x : Ins} (hx : b[i]? = some x) (hj : jmpB x = true) {g : Int} (e : H i = some g) : H x.a.toNat = some (outS ps x g) := by
 obtain ⟨y, hy, _, h⟩ := hT.2 i g e; rw [hx] at hy; injection hy with hy; subst hy
 exact h _ (mem_next.2 (.inl ⟨hj, rfl⟩))
theorem Typ.may (hT : Typ ps b H) {i : Nat} {x : Ins} (hx : b[i]? = some x) {g : Int} (e : H i = some g) : mayS ps x g := by
 obtain ⟨y, hy, h, _⟩ := hT.2 i g e; rw [hx] at hy; injection hy with hy; subst hy
 exact h
theorem LastJ.not (h : LastJ b) {i : Nat} {x : Ins} (hx : b[i]? = some x) (h14 : x.op ≠ 14) (h17 : x.op ≠ 17) : i + 1 < b.length := by
 have hl := lt_of_some hx; obtain ⟨y, hy, ho⟩ := h
 by_cases e : i = b.length - 1
 ·rw [← e, hx] at hy; injection hy with hy
  subst hy; omega
 ·omega
theorem editOkA (w : Nat) (new : Ins) (hw : 0 < w) (hlt : i' + w + 1 < b.length) (hf : Flow ps (withoutL (b.set (i' + w) new) (marks b.length i' w))) (hn : fitL ps.length nns loc b.length new = true) : EditOk ps nns loc b i' ⟨w, some new⟩ :=
 ⟨hw, Nat.lt_of_succ_lt hlt, hf, fun x hx => by injection hx with hx; rw [← hx]; exact hn, fun _ _ => hlt⟩
theorem editOkB (w : Nat) (hw : 0 < w) (hlt : i' + w < b.length) (hf : Flow ps (withoutL b (marks b.length i' w))) : EditOk ps nns loc b i' ⟨w, none⟩ :=
 ⟨hw, hlt, hf, (fun x hx => by cases hx), (fun x hx => by cases hx)⟩
theorem fold_ok (hg : Good ps nns loc b) (hl : LastJ b) (i : Nat) (e : Edit) (h : foldAt b i = some e) : EditOk ps nns loc b i e := by
 obtain ⟨H, hT⟩ := hg.flow; unfold foldAt at h; split at h
 ·next x y hx hy =>
  split at h
  ·next hc =>
   obtain ⟨hxo, ha1⟩ := hc; have hxf := fitL_push (hg.fit x (List.mem_of_getElem? hx)) hxo; split at h
   ·next hyo =>
    injection h with h
    subst h; have hlt := hl.not hy (by omega) (by omega); refine editOkA 1 _ Nat.one_pos hlt (editA_flow hT (by omega) Nat.one_pos (fun t h1 h2 => by rw [show t = i + 1 by omega]; exact ha1) (fun g e => ?_)) ?_
    ·have h1 := hT.go hx (by omega) (by omega) e; rw [(eff_push hxo g).1] at h1; have h2 := hT.go hy (by omega) (by omega) h1; rw [eff_flip hyo] at h2; have hm := hT.may hx e; unfold mayS at hm ⊢
     rw [(eff_push hxo g).2] at hm; refine ⟨⟨by rw [(eff_push (x := ⟨1, _, 0⟩) rfl g).2]; omega, hm.2.1, fun h => by cases h⟩, fun t ht => ?_⟩
     rcases mem_next.1 ht with ⟨hj, _⟩ | ⟨_, _, rfl⟩
     ·cases hj
     ·exact ⟨.inr (by omega), by rw [(eff_push (x := ⟨1, _, 0⟩) rfl g).1]; exact h2⟩
    ·exact fitL_num _ _ _ _ (by split <;> omega)
   ·split at h
    ·next hc2 =>
     obtain ⟨hyo, ha2⟩ := hc2; have hyf := fitL_push (hg.fit y (List.mem_of_getElem? hy)) hyo; split at h
     ·next z hz =>
      rw [Option.map_eq_some_iff] at h; obtain ⟨n, hn, rfl⟩ := h; have hzo := sumS_op hn; have hlt := hl.not hz (by omega) (by omega); refine editOkA 2 _ (by omega) hlt (editA_flow hT (by omega) (by omega) (fun t h1 h2 => ?_) (fun g e => ?_)) ?_
      ·rcases Nat.lt_or_ge t (i + 2) with h3 | h3
       ·rw [show t = i + 1 by omega]; exact ha1
       ·rw [show t = i + 2 by omega]; exact ha2
      ·have h1 := hT.go hx (by omega) (by omega) e; rw [(eff_push hxo g).1] at h1; have h2 := hT.go hy (by omega) (by omega) h1; rw [(eff_push hyo _).1] at h2; have h3 := hT.go hz (by omega) (by omega) h2; rw [eff_two hzo] at h3; have hm := hT.may hx e; unfold mayS at hm ⊢
       rw [(eff_push hxo g).2] at hm; refine ⟨⟨by rw [(eff_push (x := ⟨1, _, 0⟩) rfl g).2]; omega, hm.2.1, fun h => by cases h⟩, fun t ht => ?_⟩
       rcases mem_next.1 ht with ⟨hj, _⟩ | ⟨_, _, rfl⟩
       ·cases hj
       ·refine ⟨.inr (by omega), ?_⟩; rw [(eff_push (x := ⟨1, _, 0⟩) rfl g).1, h3]
        congr 1
        omega
      ·exact fitL_num _ _ _ _ (sumS_bd hn hxf hyf)
     ·cases h
    ·cases h
  ·cases h
 ·cases h
theorem settle_ok (hg : Good ps nns loc b) (hl : LastJ b) (i : Nat) (e : Edit) (h : settleAt b i = some e) : EditOk ps nns loc b i e := by
 obtain ⟨H, hT⟩ := hg.flow; unfold settleAt at h; split at h
 ·next x y hx hy =>
  split at h
  ·next hc =>
   obtain ⟨hxo, hyo, ha1⟩ := hc; have hyj : jmpB y = true := jmpB_iff.2 (.inr hyo); have hyf := hg.fit y (List.mem_of_getElem? hy); have hlt := hl.not hy (by omega) (by omega); split at h
   ·injection h with h
    subst h; refine editOkA 1 _ Nat.one_pos hlt (editA_flow hT (by omega) Nat.one_pos (fun t h1 h2 => by rw [show t = i + 1 by omega]; exact ha1) (fun g e => ?_)) ?_
    ·have h1 := hT.go hx (by omega) (by omega) e; rw [(eff_push hxo g).1] at h1; have h2 := hT.jump hy hyj h1; rw [eff_zero hyo] at h2; have hm := hT.may hx e; unfold mayS at hm ⊢
     rw [(eff_push hxo g).2] at hm; refine ⟨⟨by rw [(eff_jump (x := ⟨14, _, _⟩) rfl g).2]; omega, hm.2.1, fun h => by cases h⟩, fun t ht => ?_⟩
     rcases mem_next.1 ht with ⟨_, rfl⟩ | ⟨h14, _, _⟩
     ·refine ⟨?_, ?_⟩
      ·by_cases h3 : y.a.toNat = i + 1
       ·exfalso; have := fitL_jump hyf hyj; exact aimB_no ha1 (List.mem_of_getElem? hy) hyj (by omega)
       ·show y.a.toNat ≤ i ∨ i + 1 < y.a.toNat; omega
      ·show H y.a.toNat = _; rw [(eff_jump (x := ⟨14, _, _⟩) rfl g).1, h2]
       congr 1
       omega
     ·exact absurd rfl h14
    ·have hf := fitL_iff.1 hyf; have hf2 := fitL_jump hyf hyj; refine fitL_iff.2 ⟨by simp, by simp, hf.2.2.1, ?_, hf.2.2.2.2.1, ?_⟩
     ·rw [mostL_jump rfl]; exact (by omega : y.a ≤ (b.length : Int) - 1)
     ·have := hf.2.2.2.2.2; rw [if_neg (by omega)] at this; rw [if_neg (by simp)]; exact this
   ·injection h with h
    subst h; refine editOkB 2 (by omega) (by omega) (editB_flow hT (by omega) (fun t h1 h2 => by rw [show t = i + 1 by omega]; exact ha1) (fun g e => ?_)); have h1 := hT.go hx (by omega) (by omega) e; rw [(eff_push hxo g).1] at h1; have h2 := hT.go hy (by omega) (by omega) h1; rw [eff_zero hyo] at h2; rw [show i + 2 = i + 1 + 1 from rfl, h2]
    congr 1
    omega
  ·cases h
 ·cases h
theorem lose_ok (hg : Good ps nns loc b) (hl : LastJ b) (i : Nat) (e : Edit) (h : loseAt b i = some e) : EditOk ps nns loc b i e := by
 obtain ⟨H, hT⟩ := hg.flow; unfold loseAt at h; split at h
 ·next x hx =>
  split at h
  ·next hc =>
   obtain ⟨hxo, ha⟩ := hc; injection h with h
   subst h; have hxj : jmpB x = true := jmpB_iff.2 (.inl hxo); have hf := fitL_jump (hg.fit x (List.mem_of_getElem? hx)) hxj; refine editOkB 1 Nat.one_pos (by omega) (editB_flow hT Nat.one_pos (fun t h1 h2 => by omega) (fun g e => ?_)); have h1 := hT.jump hx hxj e; rw [(eff_jump hxo g).1, show x.a.toNat = i + 1 by omega] at h1; exact h1
  ·split at h
   ·next y hy =>
    split at h
    ·next hc =>
     obtain ⟨hid, hyo, ha1⟩ := hc; injection h with h
     subst h; have hlt := hl.not hy (by omega) (by omega); obtain ⟨e1, e2, e3, e4⟩ := eff_idle (ps := ps) hid 0; refine editOkB 2 (by omega) (by omega) (editB_flow hT (by omega) (fun t h1 h2 => by rw [show t = i + 1 by omega]; exact ha1) (fun g e => ?_)); have h1 := hT.go hx e3 e4 e; rw [(eff_idle hid g).1] at h1; have h2 := hT.go hy (by omega) (by omega) h1; rw [eff_pop hyo] at h2; rw [show i + 2 = i + 1 + 1 from rfl, h2]
     congr 1
     omega
    ·cases h
   ·cases h
 ·cases h
theorem goneL_len (b : List Ins) : (goneL b).length = b.length := by simp [goneL]
theorem goneL_no {k : Nat} (h : k < b.length) (hw : Way b k) : (goneL b)[k]? = some false := by
 unfold goneL; rw [List.getElem?_map, List.getElem?_range h]; simp [hw]
theorem goneL_yes {k : Nat} (h : k < b.length) (hw : ¬ Way b k) : (goneL b)[k]? = some true := by
 unfold goneL; rw [List.getElem?_map, List.getElem?_range h]; simp [hw]
theorem goneL_way {k : Nat} (h : (goneL b)[k]? = some false) : k < b.length ∧ Way b k := by
 have hl := lt_of_some h; rw [goneL_len] at hl; refine ⟨hl, Classical.byContradiction fun hn => ?_⟩; rw [goneL_yes hl hn] at h; cases h
theorem Typ.way (hT : Typ ps b H) {k : Nat} (h : Way b k) : ∃ g, H k = some g := by
 induction h with
 | start => exact ⟨0, hT.1⟩
 | step h hx hj ih =>
  obtain ⟨g, hg⟩ := ih; obtain ⟨y, hy, _, hn⟩ := hT.2 _ g hg; rw [hx] at hy; injection hy with hy; subst hy
  exact ⟨_, hn _ hj⟩
theorem Typ.way_lt (hT : Typ ps b H) {k : Nat} (h : Way b k) : k < b.length := by
 obtain ⟨g, hg⟩ := hT.way h; exact hT.lt hg
theorem drop_ok (hg : Good ps nns loc b) : Good ps nns loc (dropL b) ∧ LastJ (dropL b) ∧ (dropL b = b ∨ (dropL b).length < b.length) ∧ (dropL b = b → ∀ k, k < b.length → Way b k) := by
 obtain ⟨H, hT⟩ := hg.flow; have hlen : b.length = (goneL b).length := (goneL_len b).symm; have h0 : 0 < b.length := hT.lt hT.1; have hnext : ∀ {k : Nat} {x : Ins} {t : Nat}, (goneL b)[k]? = some false → b[k]? = some x → t ∈ nextS k x → (goneL b)[t]? = some false := fun {k x t} hk hx ht => by
  have := Way.step (goneL_way hk).2 hx ht; exact goneL_no (hT.way_lt this) this
 refine ⟨⟨?_, ?_⟩, ?_, ?_, ?_⟩
 ·refine without_fit hlen hg.fit fun k x hk hx hj => ?_
  exact ⟨x.a.toNat, Nat.le_refl _, hnext hk hx (mem_next.2 (.inl ⟨hj, rfl⟩))⟩
 ·refine without_flow hlen (H := H) ⟨0, Nxt.self (goneL_no h0 .start), hT.1⟩ fun k x g hk hx e => ?_
  obtain ⟨y, hy, h1, h2⟩ := hT.2 k g e; rw [hx] at hy; injection hy with hy; subst hy
  exact ⟨h1, fun t ht => ⟨t, Nxt.self (hnext hk hx ht), h2 t ht⟩⟩
 ·-- the last that stays leads away
  have hpos : 0 < (dropL b).length := by
   unfold dropL; rw [without_len hlen]; have := keptN_lt h0 (goneL_no h0 .start); omega
  obtain ⟨k, x, hk, hx, hkj, e⟩ := pickL_of (adjI (goneL b)) b (goneL b) ((dropL b).length - 1) _ (List.getElem?_eq_getElem (show _ < (dropL b).length by omega)); refine ⟨_, List.getElem?_eq_getElem (show _ < (dropL b).length by omega), ?_⟩; rw [show (dropL b)[(dropL b).length - 1] = adjI (goneL b) x from e, op_adj]
  by_cases h14 : x.op = 14
  ·exact .inl h14
  ·by_cases h17 : x.op = 17
   ·exact .inr h17
   ·exfalso; have h1 := hnext hk hx (mem_next.2 (.inr ⟨h14, h17, rfl⟩)); have h2 := keptN_lt (show k < k + 1 by omega) hk; have h3 := keptN_lt (goneL_way h1).1 h1; have : (dropL b).length = keptN (goneL b) b.length := without_len hlen; omega
 ·by_cases h : ∀ k, k < b.length → Way b k
  ·left; have : goneL b = List.replicate b.length false := by
    apply List.ext_getElem?; intro k
    rcases Nat.lt_or_ge k b.length with hk | hk
    ·rw [goneL_no hk (h k hk), List.getElem?_replicate, if_pos hk]
    ·rw [List.getElem?_eq_none (by rw [goneL_len]; exact hk), List.getElem?_eq_none (by simp; exact hk)]
   unfold dropL; rw [this]; exact without_none b fun x hx hj => by
    have := fitL_jump (hg.fit x hx) hj; omega
  ·right; obtain ⟨k, hk⟩ := Classical.not_forall.1 h; obtain ⟨hk, hw⟩ := Classical.not_imp.1 hk; exact without_lt hlen (goneL_yes hk hw)
 ·intro e k hk; refine Classical.byContradiction fun hw => ?_
  have := without_lt hlen (goneL_yes hk hw); rw [show withoutL b (goneL b) = b from e] at this; omega
end
end Go.Proofs.Ytgjbcahpgkchfaa
