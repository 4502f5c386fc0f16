/- Of the texts Dig0, Code2, Code4. -/
import Derived.Test.YtgjbcahpgkchfaaProg
import Derived.Test.YtgjbcahpgkchfaaG03
import Derived.Test.YtgjbcahpgkchfaaG07
import Derived.Deep.QuietTactic
import Derived.BigQuiet
import Derived.BigGuardPart
import Derived.OpenShut
import Derived.Deep.DeepCutAuto
import Derived.Test.YtgjbcahpgkchfaaG01
set_option linter.unusedSimpArgs false
set_option linter.unusedVariables false
namespace Go.Proofs.Ytgjbcahpgkchfaa
open Go.RowKit
def Strs (w : World) (B : Nat) (A : Option Addr) (ps : List (List UInt8)) : Prop := Rd w B 1 A ps.length (ps.map fun p => .string (bs p))
theorem Strs.at_ {w : World} {B : Nat} {A : Option Addr} {ps : List (List UInt8)} (h : Strs w B A ps) {k : Nat} (hk : k < ps.length) : ∃ b off, A = some ⟨b, off, none⟩ ∧ b < B ∧ w.cell? ⟨b, off + k, none⟩ = some (.string (bs ps[k])) := by
 obtain ⟨b, off, u, rfl, hb, hx, hc⟩ := Rd.at_ (j := 0) h hk (by omega); simp [List.getElem?_eq_getElem hk] at hx; subst hx; exact ⟨b, off, rfl, hb, by simpa using hc⟩
def InsR (w : World) (B : Nat) (A : Option Addr) (I : List Ins) : Prop :=
 ∀ k (hk : k < I.length), ∃ b off, A = some ⟨b, off, none⟩ ∧ b < B ∧ w.cell? ⟨b, off + k * 3, none⟩ = some (.int .i64 I[k].op) ∧ w.cell? ⟨b, off + k * 3 + 1, none⟩ = some (.int .i64 I[k].a) ∧ w.cell? ⟨b, off + k * 3 + 2, none⟩ = some (.int .i64 I[k].b)
theorem InsR.below {w w' : World} {B : Nat} {A : Option Addr} {I : List Ins} (h : InsR w B A I) (hb : Below B w w') : InsR w' B A I := fun k hk => by
 obtain ⟨b, off, e, h1, h2, h3, h4⟩ := h k hk; exact ⟨b, off, e, h1, (hb.cell (p := ⟨b, off + k * 3, none⟩) h1).trans h2, (hb.cell (p := ⟨b, off + k * 3 + 1, none⟩) h1).trans h3, (hb.cell (p := ⟨b, off + k * 3 + 2, none⟩) h1).trans h4⟩
def PcsR (w : World) (B : Nat) (A : Option Addr) (ps : List Pce) : Prop :=
 ∀ k (hk : k < ps.length), ∃ b off A' c, A = some ⟨b, off, none⟩ ∧ b < B ∧ w.cell? ⟨b, off + k * 5, none⟩ = some (.string (bs ps[k].name)) ∧ w.cell? ⟨b, off + k * 5 + 1, none⟩ = some (.bool ps[k].opn) ∧ w.cell? ⟨b, off + k * 5 + 2, none⟩ = some (.int .i64 ps[k].params) ∧ w.cell? ⟨b, off + k * 5 + 3, none⟩ = some (.int .i64 ps[k].locals) ∧ w.cell? ⟨b, off + k * 5 + 4, none⟩ = some (.slice A' ps[k].body.length c) ∧ InsR w B A' ps[k].body
theorem PcsR.below {w w' : World} {B : Nat} {A : Option Addr} {ps : List Pce} (h : PcsR w B A ps) (hb : Below B w w') : PcsR w' B A ps := fun k hk => by
 obtain ⟨b, off, A', c, e, h1, h2, h3, h4, h5, h6, h7⟩ := h k hk; exact ⟨b, off, A', c, e, h1, (hb.cell (p := ⟨b, off + k * 5, none⟩) h1).trans h2, (hb.cell (p := ⟨b, off + k * 5 + 1, none⟩) h1).trans h3, (hb.cell (p := ⟨b, off + k * 5 + 2, none⟩) h1).trans h4, (hb.cell (p := ⟨b, off + k * 5 + 3, none⟩) h1).trans h5, (hb.cell (p := ⟨b, off + k * 5 + 4, none⟩) h1).trans h6, h7.below hb⟩
theorem thirty {x : Int} (h : 1 ≤ x ∧ x ≤ 30) : x = 1 ∨ x = 2 ∨ x = 3 ∨ x = 4 ∨ x = 5 ∨ x = 6 ∨ x = 7 ∨ x = 8 ∨ x = 9 ∨ x = 10 ∨ x = 11 ∨ x = 12 ∨ x = 13 ∨ x = 14 ∨ x = 15 ∨ x = 16 ∨ x = 17 ∨ x = 18 ∨ x = 19 ∨ x = 20 ∨ x = 21 ∨ x = 22 ∨ x = 23 ∨ x = 24 ∨ x = 25 ∨ x = 26 ∨ x = 27 ∨ x = 28 ∨ x = 29 ∨ x = 30 := by omega
def insV (i : Ins) : Value := .agg #[.int .i64 i.op, .int .i64 i.a, .int .i64 i.b]
def codV (A : Option Addr) (n c : Nat) (A' : Option Addr) (n' c' : Nat) : Value := .agg #[.slice A n c, .slice A' n' c']
set_option maxRecDepth 100000 in
set_option maxHeartbeats 4000000 in
theorem effect_any (ps : List Pce) (i : Ins) (A A' : Option Addr) (n' c c' B : Nat) (w : World) (h : PcsR w B A ps) (hB : B ≤ w.heap.size) (hop : 1 ≤ i.op ∧ i.op ≤ 30) (h16 : i.op = 16 → 0 ≤ i.a ∧ i.a < ps.length) (h30 : i.op = 30 → 0 ≤ i.a ∧ i.a ≤ 8) (hps : ps.length ≤ 1000000) :
    Calls Try.prog 30 #[codV A ps.length c A' n' c', insV i] w fun e w' => e = .returned (.tuple #[.int .i64 (takesS ps i), .int .i64 (leavesS i)]) ∧ Below w.heap.size w w' := by
  have hbel : ∀ o o' : Obj, Below w.heap.size w ((w.alloc o).alloc o') := fun o o' => ((Below.refl _ _).alloc (Nat.le_refl _) o).alloc (by simp) o'
  obtain ⟨op, a, b⟩ := i
  simp only at hop h16 h30
  have HP := Lib.hid h
  clear h
  unfold codV insV
  by_cases h : op = 16
  · subst h
    obtain ⟨h0, h1⟩ := h16 rfl
    obtain ⟨k, rfl⟩ := Int.eq_ofNat_of_zero_le h0
    have hk : k < ps.length := by omega
    obtain ⟨pb, off, A1, c1, rfl, hb, _, _, hc, _, _, _⟩ := HP.out k hk
    have HT : Hid (takesS ps ⟨16, (k : Int), b⟩ = ps[k].params) := by show _ = _; simp [takesS, hk]
    have HL : Hid (leavesS ⟨16, (k : Int), b⟩ = 1) := rfl
    rw [HT.out, HL.out]
    clear HT HL
    generalize ps[k].params = z at *
    have hne : (pb == w.heap.size) = false := by simp; omega
    have hki : (k : Int) < (ps.length : Int) := h1
    have hk0 : (0 : Int) ≤ (k : Int) := h0
    have hc1 : ((w.alloc (.cells #[.slice (some ⟨pb, off, none⟩) ps.length c, .slice A' n' c'] 25)).alloc (.cells #[.int .i64 16, .int .i64 (k : Int), .int .i64 b] 31)).cell? ⟨pb, off + k * 5 + 2, none⟩ = some (.int .i64 z) := ((hbel _ _).cell (p := ⟨pb, off + k * 5 + 2, none⟩) (by simp; omega)).trans hc
    clear h16 h30 hop
    go_enter Try.func30, Try.ntmps30
    go_wp2_with fail
    go_ret2
    exact ⟨rfl, hbel _ _⟩
  have key : ∀ t l, takesS ps ⟨op, a, b⟩ = t → leavesS ⟨op, a, b⟩ = l → Hid (takesS ps ⟨op, a, b⟩ = t ∧ leavesS ⟨op, a, b⟩ = l) := fun _ _ x y => ⟨x, y⟩
  clear h16 HP
  have hall := thirty hop
  clear hop
  rcases hall with rfl | rfl | rfl | rfl | rfl | rfl | rfl | rfl | rfl | rfl | rfl | rfl | rfl | rfl | rfl | rfl | rfl | rfl | rfl | rfl | rfl | rfl | rfl | rfl | rfl | rfl | rfl | rfl | rfl | rfl
  all_goals
    first
    | (exfalso; exact h rfl)
    | (have e := h30 rfl
       clear h30
       have HK := key (a + 3) 2 (by simp [takesS]) (by simp [leavesS])
       rw [HK.out.1, HK.out.2]
       clear HK key
       go_enter Try.func30, Try.ntmps30
       go_wp2_with fail
       go_ret2
       exact ⟨rfl, hbel _ _⟩)
    | (have HK := key _ _ (by simp [takesS]; rfl) (by simp [leavesS]; rfl)
       rw [HK.out.1, HK.out.2]
       clear HK key h30
       go_enter Try.func30, Try.ntmps30
       go_wp2_with fail
       go_ret2
       exact ⟨rfl, hbel _ _⟩)
def pceV (p : Pce) (A : Option Addr) (c : Nat) : Value := .agg #[.string (bs p.name), .bool p.opn, .int .i64 p.params, .int .i64 p.locals, .slice A p.body.length c]
theorem fit_lo {nps nns : Nat} {p : Pce} {i : Ins} (h : ¬ 0 ≤ i.a) : fitS nps nns p i = false := by unfold fitS; simp [h]
theorem fit_hi {nps nns : Nat} {p : Pce} {i : Ins} (h : ¬ i.a ≤ mostS nps p i) : fitS nps nns p i = false := by unfold fitS; simp [h]
theorem fit_b {nps nns : Nat} {p : Pce} {i : Ins} (h : ¬ i.b = 0) (h30 : i.op ≠ 30) : fitS nps nns p i = false := by
 unfold fitS; rw [if_neg h30]
 by_cases h0 : 0 ≤ i.b
 ·have : ¬ i.b ≤ 0 := by omega
  simp [this]
 ·simp [h0]
theorem fit_op {nps nns : Nat} {p : Pce} {i : Ins} (h : ¬ (1 ≤ i.op ∧ i.op ≤ 30)) : fitS nps nns p i = false := by
 unfold fitS
 by_cases h0 : 1 ≤ i.op
 ·have : ¬ i.op ≤ 30 := fun e => h ⟨h0, e⟩
  simp [this]
 ·simp [h0]
theorem fit_yes {nps nns : Nat} {p : Pce} {i : Ins} (h : 1 ≤ i.op ∧ i.op ≤ 30) (h0 : 0 ≤ i.a) (h1 : i.a ≤ mostS nps p i) (h2 : i.b = 0) (h30 : i.op ≠ 30) : fitS nps nns p i = true := by
 unfold fitS; rw [if_neg h30, h2]; simp [h, h0, h1]
theorem fit_reach {nps nns : Nat} {p : Pce} {i : Ins} (h30 : i.op = 30) : fitS nps nns p i = (decide (0 ≤ i.a) && decide (i.a ≤ 8) && decide (0 ≤ i.b) && decide (i.b < (nns : Int))) := by
 have hm : mostS nps p i = 8 := by unfold mostS; simp [h30]
 unfold fitS; rw [hm, if_pos h30, h30]; have : decide (i.b ≤ (nns : Int) - 1) = decide (i.b < (nns : Int)) := decide_eq_decide.mpr (by omega); rw [this]; simp
set_option maxRecDepth 100000 in
set_option maxHeartbeats 4000000 in
theorem fits_1 (nps nns : Nat) (p : Pce) (a b : Int) (A A' Ab : Option Addr) (c c' cb : Nat) (w : World) (hl : -9223372036854775807 ≤ p.locals ∧ p.locals ≤ 32) (hb : p.body.length ≤ 2048) (hn : nps ≤ 32) :
  Calls Try.prog 23 #[codV A nps c A' nns c', pceV p Ab cb, insV ⟨1, a, b⟩] w fun e w' => e = .returned (.bool (fitS nps nns p ⟨1, a, b⟩)) ∧ Below w.heap.size w w' := by
 have hbel : ∀ o o' o2 : Obj, Below w.heap.size w (((w.alloc o).alloc o').alloc o2) := fun o o' o2 => (((Below.refl _ _).alloc (Nat.le_refl _) o).alloc (by simp) o').alloc (by simp; omega) o2
 have hw1 : IntKind.i64.wrap (p.locals - 1) = p.locals - 1 := IntWalk.i64_in _ (by omega); have hw2 : IntKind.i64.wrap ((p.body.length : Int) - 1) = (p.body.length : Int) - 1 := IntWalk.i64_in _ (by omega); have hw3 : IntKind.i64.wrap ((nps : Int) - 1) = (nps : Int) - 1 := IntWalk.i64_in _ (by omega); unfold codV insV pceV; have hlo := fun h => fit_lo (nps := nps) (nns := nns) (p := p) (i := ⟨1, a, b⟩) h
 have hhi := fun h => fit_hi (nps := nps) (nns := nns) (p := p) (i := ⟨1, a, b⟩) h
 have hbb := fun h => fit_b (nps := nps) (nns := nns) (p := p) (i := ⟨1, a, b⟩) h (by simp)
 have hye := fun h g1 g2 => fit_yes (nps := nps) (nns := nns) (p := p) (i := ⟨1, a, b⟩) (by simp) h g1 g2 (by simp)
 rw [show mostS nps p ⟨1, a, b⟩ = 1099511627775 from by simp [mostS]] at hhi hye; simp only at hlo hhi hbb hye; have HL := Lib.hid hlo; have HH := Lib.hid hhi; have HB := Lib.hid hbb; have HY := Lib.hid hye; clear hlo hhi hbb hye; generalize fitS nps nns p ⟨1, a, b⟩ = Fv at *
 by_cases ha : 0 ≤ a
 ·by_cases hm : a ≤ 1099511627775
  ·by_cases hb0 : b = 0
   ·subst hb0; obtain rfl := HY.out ha hm rfl; clear HL HH HB HY; go_enter Try.func23, Try.ntmps23; go_wp2_with fail; go_ret; exact ⟨rfl, hbel _ _ _⟩
   ·obtain rfl := HB.out hb0; have hb1 : (b == 0) = false := beq_eq_false_iff_ne.2 hb0; clear HL HH HB HY; go_enter Try.func23, Try.ntmps23; go_wp2_with fail; go_ret; exact ⟨rfl, hbel _ _ _⟩
  ·obtain rfl := HH.out hm; clear HL HH HB HY; go_enter Try.func23, Try.ntmps23; go_wp2_with fail; go_ret; exact ⟨rfl, hbel _ _ _⟩
 ·obtain rfl := HL.out ha; clear HL HH HB HY; go_enter Try.func23, Try.ntmps23; go_wp2_with fail; go_ret; exact ⟨rfl, hbel _ _ _⟩
set_option maxRecDepth 100000 in
set_option maxHeartbeats 4000000 in
theorem fits_3 (nps nns : Nat) (p : Pce) (a b : Int) (A A' Ab : Option Addr) (c c' cb : Nat) (w : World) (hl : -9223372036854775807 ≤ p.locals ∧ p.locals ≤ 32) (hb : p.body.length ≤ 2048) (hn : nps ≤ 32) :
  Calls Try.prog 23 #[codV A nps c A' nns c', pceV p Ab cb, insV ⟨3, a, b⟩] w fun e w' => e = .returned (.bool (fitS nps nns p ⟨3, a, b⟩)) ∧ Below w.heap.size w w' := by
 have hbel : ∀ o o' o2 : Obj, Below w.heap.size w (((w.alloc o).alloc o').alloc o2) := fun o o' o2 => (((Below.refl _ _).alloc (Nat.le_refl _) o).alloc (by simp) o').alloc (by simp; omega) o2
 have hw1 : IntKind.i64.wrap (p.locals - 1) = p.locals - 1 := IntWalk.i64_in _ (by omega); have hw2 : IntKind.i64.wrap ((p.body.length : Int) - 1) = (p.body.length : Int) - 1 := IntWalk.i64_in _ (by omega); have hw3 : IntKind.i64.wrap ((nps : Int) - 1) = (nps : Int) - 1 := IntWalk.i64_in _ (by omega); unfold codV insV pceV; have hlo := fun h => fit_lo (nps := nps) (nns := nns) (p := p) (i := ⟨3, a, b⟩) h
 have hhi := fun h => fit_hi (nps := nps) (nns := nns) (p := p) (i := ⟨3, a, b⟩) h
 have hbb := fun h => fit_b (nps := nps) (nns := nns) (p := p) (i := ⟨3, a, b⟩) h (by simp)
 have hye := fun h g1 g2 => fit_yes (nps := nps) (nns := nns) (p := p) (i := ⟨3, a, b⟩) (by simp) h g1 g2 (by simp)
 rw [show mostS nps p ⟨3, a, b⟩ = p.locals - 1 from by simp [mostS]] at hhi hye; simp only at hlo hhi hbb hye; have HL := Lib.hid hlo; have HH := Lib.hid hhi; have HB := Lib.hid hbb; have HY := Lib.hid hye; clear hlo hhi hbb hye; generalize fitS nps nns p ⟨3, a, b⟩ = Fv at *
 by_cases ha : 0 ≤ a
 ·by_cases hm : a ≤ p.locals - 1
  ·by_cases hb0 : b = 0
   ·subst hb0; obtain rfl := HY.out ha hm rfl; clear HL HH HB HY; go_enter Try.func23, Try.ntmps23; go_wp2_with fail; go_ret; exact ⟨rfl, hbel _ _ _⟩
   ·obtain rfl := HB.out hb0; have hb1 : (b == 0) = false := beq_eq_false_iff_ne.2 hb0; clear HL HH HB HY; go_enter Try.func23, Try.ntmps23; go_wp2_with fail; go_ret; exact ⟨rfl, hbel _ _ _⟩
  ·obtain rfl := HH.out hm; clear HL HH HB HY; go_enter Try.func23, Try.ntmps23; go_wp2_with fail; go_ret; exact ⟨rfl, hbel _ _ _⟩
 ·obtain rfl := HL.out ha; clear HL HH HB HY; go_enter Try.func23, Try.ntmps23; go_wp2_with fail; go_ret; exact ⟨rfl, hbel _ _ _⟩
set_option maxRecDepth 100000 in
set_option maxHeartbeats 4000000 in
theorem fits_4 (nps nns : Nat) (p : Pce) (a b : Int) (A A' Ab : Option Addr) (c c' cb : Nat) (w : World) (hl : -9223372036854775807 ≤ p.locals ∧ p.locals ≤ 32) (hb : p.body.length ≤ 2048) (hn : nps ≤ 32) :
  Calls Try.prog 23 #[codV A nps c A' nns c', pceV p Ab cb, insV ⟨4, a, b⟩] w fun e w' => e = .returned (.bool (fitS nps nns p ⟨4, a, b⟩)) ∧ Below w.heap.size w w' := by
 have hbel : ∀ o o' o2 : Obj, Below w.heap.size w (((w.alloc o).alloc o').alloc o2) := fun o o' o2 => (((Below.refl _ _).alloc (Nat.le_refl _) o).alloc (by simp) o').alloc (by simp; omega) o2
 have hw1 : IntKind.i64.wrap (p.locals - 1) = p.locals - 1 := IntWalk.i64_in _ (by omega); have hw2 : IntKind.i64.wrap ((p.body.length : Int) - 1) = (p.body.length : Int) - 1 := IntWalk.i64_in _ (by omega); have hw3 : IntKind.i64.wrap ((nps : Int) - 1) = (nps : Int) - 1 := IntWalk.i64_in _ (by omega); unfold codV insV pceV; have hlo := fun h => fit_lo (nps := nps) (nns := nns) (p := p) (i := ⟨4, a, b⟩) h
 have hhi := fun h => fit_hi (nps := nps) (nns := nns) (p := p) (i := ⟨4, a, b⟩) h
 have hbb := fun h => fit_b (nps := nps) (nns := nns) (p := p) (i := ⟨4, a, b⟩) h (by simp)
 have hye := fun h g1 g2 => fit_yes (nps := nps) (nns := nns) (p := p) (i := ⟨4, a, b⟩) (by simp) h g1 g2 (by simp)
 rw [show mostS nps p ⟨4, a, b⟩ = p.locals - 1 from by simp [mostS]] at hhi hye; simp only at hlo hhi hbb hye; have HL := Lib.hid hlo; have HH := Lib.hid hhi; have HB := Lib.hid hbb; have HY := Lib.hid hye; clear hlo hhi hbb hye; generalize fitS nps nns p ⟨4, a, b⟩ = Fv at *
 by_cases ha : 0 ≤ a
 ·by_cases hm : a ≤ p.locals - 1
  ·by_cases hb0 : b = 0
   ·subst hb0; obtain rfl := HY.out ha hm rfl; clear HL HH HB HY; go_enter Try.func23, Try.ntmps23; go_wp2_with fail; go_ret; exact ⟨rfl, hbel _ _ _⟩
   ·obtain rfl := HB.out hb0; have hb1 : (b == 0) = false := beq_eq_false_iff_ne.2 hb0; clear HL HH HB HY; go_enter Try.func23, Try.ntmps23; go_wp2_with fail; go_ret; exact ⟨rfl, hbel _ _ _⟩
  ·obtain rfl := HH.out hm; clear HL HH HB HY; go_enter Try.func23, Try.ntmps23; go_wp2_with fail; go_ret; exact ⟨rfl, hbel _ _ _⟩
 ·obtain rfl := HL.out ha; clear HL HH HB HY; go_enter Try.func23, Try.ntmps23; go_wp2_with fail; go_ret; exact ⟨rfl, hbel _ _ _⟩
set_option maxRecDepth 100000 in
set_option maxHeartbeats 4000000 in
theorem fits_14 (nps nns : Nat) (p : Pce) (a b : Int) (A A' Ab : Option Addr) (c c' cb : Nat) (w : World) (hl : -9223372036854775807 ≤ p.locals ∧ p.locals ≤ 32) (hb : p.body.length ≤ 2048) (hn : nps ≤ 32) :
  Calls Try.prog 23 #[codV A nps c A' nns c', pceV p Ab cb, insV ⟨14, a, b⟩] w fun e w' => e = .returned (.bool (fitS nps nns p ⟨14, a, b⟩)) ∧ Below w.heap.size w w' := by
 have hbel : ∀ o o' o2 : Obj, Below w.heap.size w (((w.alloc o).alloc o').alloc o2) := fun o o' o2 => (((Below.refl _ _).alloc (Nat.le_refl _) o).alloc (by simp) o').alloc (by simp; omega) o2
 have hw1 : IntKind.i64.wrap (p.locals - 1) = p.locals - 1 := IntWalk.i64_in _ (by omega); have hw2 : IntKind.i64.wrap ((p.body.length : Int) - 1) = (p.body.length : Int) - 1 := IntWalk.i64_in _ (by omega); have hw3 : IntKind.i64.wrap ((nps : Int) - 1) = (nps : Int) - 1 := IntWalk.i64_in _ (by omega); unfold codV insV pceV; have hlo := fun h => fit_lo (nps := nps) (nns := nns) (p := p) (i := ⟨14, a, b⟩) h
 have hhi := fun h => fit_hi (nps := nps) (nns := nns) (p := p) (i := ⟨14, a, b⟩) h
 have hbb := fun h => fit_b (nps := nps) (nns := nns) (p := p) (i := ⟨14, a, b⟩) h (by simp)
 have hye := fun h g1 g2 => fit_yes (nps := nps) (nns := nns) (p := p) (i := ⟨14, a, b⟩) (by simp) h g1 g2 (by simp)
 rw [show mostS nps p ⟨14, a, b⟩ = (p.body.length : Int) - 1 from by simp [mostS]] at hhi hye; simp only at hlo hhi hbb hye; have HL := Lib.hid hlo; have HH := Lib.hid hhi; have HB := Lib.hid hbb; have HY := Lib.hid hye; clear hlo hhi hbb hye; generalize fitS nps nns p ⟨14, a, b⟩ = Fv at *
 by_cases ha : 0 ≤ a
 ·by_cases hm : a ≤ (p.body.length : Int) - 1
  ·by_cases hb0 : b = 0
   ·subst hb0; obtain rfl := HY.out ha hm rfl; clear HL HH HB HY; go_enter Try.func23, Try.ntmps23; go_wp2_with fail; go_ret; exact ⟨rfl, hbel _ _ _⟩
   ·obtain rfl := HB.out hb0; have hb1 : (b == 0) = false := beq_eq_false_iff_ne.2 hb0; clear HL HH HB HY; go_enter Try.func23, Try.ntmps23; go_wp2_with fail; go_ret; exact ⟨rfl, hbel _ _ _⟩
  ·obtain rfl := HH.out hm; clear HL HH HB HY; go_enter Try.func23, Try.ntmps23; go_wp2_with fail; go_ret; exact ⟨rfl, hbel _ _ _⟩
 ·obtain rfl := HL.out ha; clear HL HH HB HY; go_enter Try.func23, Try.ntmps23; go_wp2_with fail; go_ret; exact ⟨rfl, hbel _ _ _⟩
set_option maxRecDepth 100000 in
set_option maxHeartbeats 4000000 in
theorem fits_15 (nps nns : Nat) (p : Pce) (a b : Int) (A A' Ab : Option Addr) (c c' cb : Nat) (w : World) (hl : -9223372036854775807 ≤ p.locals ∧ p.locals ≤ 32) (hb : p.body.length ≤ 2048) (hn : nps ≤ 32) :
  Calls Try.prog 23 #[codV A nps c A' nns c', pceV p Ab cb, insV ⟨15, a, b⟩] w fun e w' => e = .returned (.bool (fitS nps nns p ⟨15, a, b⟩)) ∧ Below w.heap.size w w' := by
 have hbel : ∀ o o' o2 : Obj, Below w.heap.size w (((w.alloc o).alloc o').alloc o2) := fun o o' o2 => (((Below.refl _ _).alloc (Nat.le_refl _) o).alloc (by simp) o').alloc (by simp; omega) o2
 have hw1 : IntKind.i64.wrap (p.locals - 1) = p.locals - 1 := IntWalk.i64_in _ (by omega); have hw2 : IntKind.i64.wrap ((p.body.length : Int) - 1) = (p.body.length : Int) - 1 := IntWalk.i64_in _ (by omega); have hw3 : IntKind.i64.wrap ((nps : Int) - 1) = (nps : Int) - 1 := IntWalk.i64_in _ (by omega); unfold codV insV pceV; have hlo := fun h => fit_lo (nps := nps) (nns := nns) (p := p) (i := ⟨15, a, b⟩) h
 have hhi := fun h => fit_hi (nps := nps) (nns := nns) (p := p) (i := ⟨15, a, b⟩) h
 have hbb := fun h => fit_b (nps := nps) (nns := nns) (p := p) (i := ⟨15, a, b⟩) h (by simp)
 have hye := fun h g1 g2 => fit_yes (nps := nps) (nns := nns) (p := p) (i := ⟨15, a, b⟩) (by simp) h g1 g2 (by simp)
 rw [show mostS nps p ⟨15, a, b⟩ = (p.body.length : Int) - 1 from by simp [mostS]] at hhi hye; simp only at hlo hhi hbb hye; have HL := Lib.hid hlo; have HH := Lib.hid hhi; have HB := Lib.hid hbb; have HY := Lib.hid hye; clear hlo hhi hbb hye; generalize fitS nps nns p ⟨15, a, b⟩ = Fv at *
 by_cases ha : 0 ≤ a
 ·by_cases hm : a ≤ (p.body.length : Int) - 1
  ·by_cases hb0 : b = 0
   ·subst hb0; obtain rfl := HY.out ha hm rfl; clear HL HH HB HY; go_enter Try.func23, Try.ntmps23; go_wp2_with fail; go_ret; exact ⟨rfl, hbel _ _ _⟩
   ·obtain rfl := HB.out hb0; have hb1 : (b == 0) = false := beq_eq_false_iff_ne.2 hb0; clear HL HH HB HY; go_enter Try.func23, Try.ntmps23; go_wp2_with fail; go_ret; exact ⟨rfl, hbel _ _ _⟩
  ·obtain rfl := HH.out hm; clear HL HH HB HY; go_enter Try.func23, Try.ntmps23; go_wp2_with fail; go_ret; exact ⟨rfl, hbel _ _ _⟩
 ·obtain rfl := HL.out ha; clear HL HH HB HY; go_enter Try.func23, Try.ntmps23; go_wp2_with fail; go_ret; exact ⟨rfl, hbel _ _ _⟩
set_option maxRecDepth 100000 in
set_option maxHeartbeats 4000000 in
theorem fits_16 (nps nns : Nat) (p : Pce) (a b : Int) (A A' Ab : Option Addr) (c c' cb : Nat) (w : World) (hl : -9223372036854775807 ≤ p.locals ∧ p.locals ≤ 32) (hb : p.body.length ≤ 2048) (hn : nps ≤ 32) :
  Calls Try.prog 23 #[codV A nps c A' nns c', pceV p Ab cb, insV ⟨16, a, b⟩] w fun e w' => e = .returned (.bool (fitS nps nns p ⟨16, a, b⟩)) ∧ Below w.heap.size w w' := by
 have hbel : ∀ o o' o2 : Obj, Below w.heap.size w (((w.alloc o).alloc o').alloc o2) := fun o o' o2 => (((Below.refl _ _).alloc (Nat.le_refl _) o).alloc (by simp) o').alloc (by simp; omega) o2
 have hw1 : IntKind.i64.wrap (p.locals - 1) = p.locals - 1 := IntWalk.i64_in _ (by omega); have hw2 : IntKind.i64.wrap ((p.body.length : Int) - 1) = (p.body.length : Int) - 1 := IntWalk.i64_in _ (by omega); have hw3 : IntKind.i64.wrap ((nps : Int) - 1) = (nps : Int) - 1 := IntWalk.i64_in _ (by omega); unfold codV insV pceV; have hlo := fun h => fit_lo (nps := nps) (nns := nns) (p := p) (i := ⟨16, a, b⟩) h
 have hhi := fun h => fit_hi (nps := nps) (nns := nns) (p := p) (i := ⟨16, a, b⟩) h
 have hbb := fun h => fit_b (nps := nps) (nns := nns) (p := p) (i := ⟨16, a, b⟩) h (by simp)
 have hye := fun h g1 g2 => fit_yes (nps := nps) (nns := nns) (p := p) (i := ⟨16, a, b⟩) (by simp) h g1 g2 (by simp)
 rw [show mostS nps p ⟨16, a, b⟩ = (nps : Int) - 1 from by simp [mostS]] at hhi hye; simp only at hlo hhi hbb hye; have HL := Lib.hid hlo; have HH := Lib.hid hhi; have HB := Lib.hid hbb; have HY := Lib.hid hye; clear hlo hhi hbb hye; generalize fitS nps nns p ⟨16, a, b⟩ = Fv at *
 by_cases ha : 0 ≤ a
 ·by_cases hm : a ≤ (nps : Int) - 1
  ·by_cases hb0 : b = 0
   ·subst hb0; obtain rfl := HY.out ha hm rfl; clear HL HH HB HY; go_enter Try.func23, Try.ntmps23; go_wp2_with fail; go_ret; exact ⟨rfl, hbel _ _ _⟩
   ·obtain rfl := HB.out hb0; have hb1 : (b == 0) = false := beq_eq_false_iff_ne.2 hb0; clear HL HH HB HY; go_enter Try.func23, Try.ntmps23; go_wp2_with fail; go_ret; exact ⟨rfl, hbel _ _ _⟩
  ·obtain rfl := HH.out hm; clear HL HH HB HY; go_enter Try.func23, Try.ntmps23; go_wp2_with fail; go_ret; exact ⟨rfl, hbel _ _ _⟩
 ·obtain rfl := HL.out ha; clear HL HH HB HY; go_enter Try.func23, Try.ntmps23; go_wp2_with fail; go_ret; exact ⟨rfl, hbel _ _ _⟩
set_option maxRecDepth 100000 in
set_option maxHeartbeats 4000000 in
theorem fits_18 (nps nns : Nat) (p : Pce) (a b : Int) (A A' Ab : Option Addr) (c c' cb : Nat) (w : World) (hl : -9223372036854775807 ≤ p.locals ∧ p.locals ≤ 32) (hb : p.body.length ≤ 2048) (hn : nps ≤ 32) :
  Calls Try.prog 23 #[codV A nps c A' nns c', pceV p Ab cb, insV ⟨18, a, b⟩] w fun e w' => e = .returned (.bool (fitS nps nns p ⟨18, a, b⟩)) ∧ Below w.heap.size w w' := by
 have hbel : ∀ o o' o2 : Obj, Below w.heap.size w (((w.alloc o).alloc o').alloc o2) := fun o o' o2 => (((Below.refl _ _).alloc (Nat.le_refl _) o).alloc (by simp) o').alloc (by simp; omega) o2
 have hw1 : IntKind.i64.wrap (p.locals - 1) = p.locals - 1 := IntWalk.i64_in _ (by omega); have hw2 : IntKind.i64.wrap ((p.body.length : Int) - 1) = (p.body.length : Int) - 1 := IntWalk.i64_in _ (by omega); have hw3 : IntKind.i64.wrap ((nps : Int) - 1) = (nps : Int) - 1 := IntWalk.i64_in _ (by omega); unfold codV insV pceV; have hlo := fun h => fit_lo (nps := nps) (nns := nns) (p := p) (i := ⟨18, a, b⟩) h
 have hhi := fun h => fit_hi (nps := nps) (nns := nns) (p := p) (i := ⟨18, a, b⟩) h
 have hbb := fun h => fit_b (nps := nps) (nns := nns) (p := p) (i := ⟨18, a, b⟩) h (by simp)
 have hye := fun h g1 g2 => fit_yes (nps := nps) (nns := nns) (p := p) (i := ⟨18, a, b⟩) (by simp) h g1 g2 (by simp)
 rw [show mostS nps p ⟨18, a, b⟩ = 31 from by simp [mostS]] at hhi hye; simp only at hlo hhi hbb hye; have HL := Lib.hid hlo; have HH := Lib.hid hhi; have HB := Lib.hid hbb; have HY := Lib.hid hye; clear hlo hhi hbb hye; generalize fitS nps nns p ⟨18, a, b⟩ = Fv at *
 by_cases ha : 0 ≤ a
 ·by_cases hm : a ≤ 31
  ·by_cases hb0 : b = 0
   ·subst hb0; obtain rfl := HY.out ha hm rfl; clear HL HH HB HY; go_enter Try.func23, Try.ntmps23; go_wp2_with fail; go_ret; exact ⟨rfl, hbel _ _ _⟩
   ·obtain rfl := HB.out hb0; have hb1 : (b == 0) = false := beq_eq_false_iff_ne.2 hb0; clear HL HH HB HY; go_enter Try.func23, Try.ntmps23; go_wp2_with fail; go_ret; exact ⟨rfl, hbel _ _ _⟩
  ·obtain rfl := HH.out hm; clear HL HH HB HY; go_enter Try.func23, Try.ntmps23; go_wp2_with fail; go_ret; exact ⟨rfl, hbel _ _ _⟩
 ·obtain rfl := HL.out ha; clear HL HH HB HY; go_enter Try.func23, Try.ntmps23; go_wp2_with fail; go_ret; exact ⟨rfl, hbel _ _ _⟩
set_option maxRecDepth 100000 in
set_option maxHeartbeats 4000000 in
theorem fits_19 (nps nns : Nat) (p : Pce) (a b : Int) (A A' Ab : Option Addr) (c c' cb : Nat) (w : World) (hl : -9223372036854775807 ≤ p.locals ∧ p.locals ≤ 32) (hb : p.body.length ≤ 2048) (hn : nps ≤ 32) :
  Calls Try.prog 23 #[codV A nps c A' nns c', pceV p Ab cb, insV ⟨19, a, b⟩] w fun e w' => e = .returned (.bool (fitS nps nns p ⟨19, a, b⟩)) ∧ Below w.heap.size w w' := by
 have hbel : ∀ o o' o2 : Obj, Below w.heap.size w (((w.alloc o).alloc o').alloc o2) := fun o o' o2 => (((Below.refl _ _).alloc (Nat.le_refl _) o).alloc (by simp) o').alloc (by simp; omega) o2
 have hw1 : IntKind.i64.wrap (p.locals - 1) = p.locals - 1 := IntWalk.i64_in _ (by omega); have hw2 : IntKind.i64.wrap ((p.body.length : Int) - 1) = (p.body.length : Int) - 1 := IntWalk.i64_in _ (by omega); have hw3 : IntKind.i64.wrap ((nps : Int) - 1) = (nps : Int) - 1 := IntWalk.i64_in _ (by omega); unfold codV insV pceV; have hlo := fun h => fit_lo (nps := nps) (nns := nns) (p := p) (i := ⟨19, a, b⟩) h
 have hhi := fun h => fit_hi (nps := nps) (nns := nns) (p := p) (i := ⟨19, a, b⟩) h
 have hbb := fun h => fit_b (nps := nps) (nns := nns) (p := p) (i := ⟨19, a, b⟩) h (by simp)
 have hye := fun h g1 g2 => fit_yes (nps := nps) (nns := nns) (p := p) (i := ⟨19, a, b⟩) (by simp) h g1 g2 (by simp)
 rw [show mostS nps p ⟨19, a, b⟩ = 31 from by simp [mostS]] at hhi hye; simp only at hlo hhi hbb hye; have HL := Lib.hid hlo; have HH := Lib.hid hhi; have HB := Lib.hid hbb; have HY := Lib.hid hye; clear hlo hhi hbb hye; generalize fitS nps nns p ⟨19, a, b⟩ = Fv at *
 by_cases ha : 0 ≤ a
 ·by_cases hm : a ≤ 31
  ·by_cases hb0 : b = 0
   ·subst hb0; obtain rfl := HY.out ha hm rfl; clear HL HH HB HY; go_enter Try.func23, Try.ntmps23; go_wp2_with fail; go_ret; exact ⟨rfl, hbel _ _ _⟩
   ·obtain rfl := HB.out hb0; have hb1 : (b == 0) = false := beq_eq_false_iff_ne.2 hb0; clear HL HH HB HY; go_enter Try.func23, Try.ntmps23; go_wp2_with fail; go_ret; exact ⟨rfl, hbel _ _ _⟩
  ·obtain rfl := HH.out hm; clear HL HH HB HY; go_enter Try.func23, Try.ntmps23; go_wp2_with fail; go_ret; exact ⟨rfl, hbel _ _ _⟩
 ·obtain rfl := HL.out ha; clear HL HH HB HY; go_enter Try.func23, Try.ntmps23; go_wp2_with fail; go_ret; exact ⟨rfl, hbel _ _ _⟩
set_option maxRecDepth 100000 in
set_option maxHeartbeats 4000000 in
theorem fits_20 (nps nns : Nat) (p : Pce) (a b : Int) (A A' Ab : Option Addr) (c c' cb : Nat) (w : World) (hl : -9223372036854775807 ≤ p.locals ∧ p.locals ≤ 32) (hb : p.body.length ≤ 2048) (hn : nps ≤ 32) :
  Calls Try.prog 23 #[codV A nps c A' nns c', pceV p Ab cb, insV ⟨20, a, b⟩] w fun e w' => e = .returned (.bool (fitS nps nns p ⟨20, a, b⟩)) ∧ Below w.heap.size w w' := by
 have hbel : ∀ o o' o2 : Obj, Below w.heap.size w (((w.alloc o).alloc o').alloc o2) := fun o o' o2 => (((Below.refl _ _).alloc (Nat.le_refl _) o).alloc (by simp) o').alloc (by simp; omega) o2
 have hw1 : IntKind.i64.wrap (p.locals - 1) = p.locals - 1 := IntWalk.i64_in _ (by omega); have hw2 : IntKind.i64.wrap ((p.body.length : Int) - 1) = (p.body.length : Int) - 1 := IntWalk.i64_in _ (by omega); have hw3 : IntKind.i64.wrap ((nps : Int) - 1) = (nps : Int) - 1 := IntWalk.i64_in _ (by omega); unfold codV insV pceV; have hlo := fun h => fit_lo (nps := nps) (nns := nns) (p := p) (i := ⟨20, a, b⟩) h
 have hhi := fun h => fit_hi (nps := nps) (nns := nns) (p := p) (i := ⟨20, a, b⟩) h
 have hbb := fun h => fit_b (nps := nps) (nns := nns) (p := p) (i := ⟨20, a, b⟩) h (by simp)
 have hye := fun h g1 g2 => fit_yes (nps := nps) (nns := nns) (p := p) (i := ⟨20, a, b⟩) (by simp) h g1 g2 (by simp)
 rw [show mostS nps p ⟨20, a, b⟩ = 31 from by simp [mostS]] at hhi hye; simp only at hlo hhi hbb hye; have HL := Lib.hid hlo; have HH := Lib.hid hhi; have HB := Lib.hid hbb; have HY := Lib.hid hye; clear hlo hhi hbb hye; generalize fitS nps nns p ⟨20, a, b⟩ = Fv at *
 by_cases ha : 0 ≤ a
 ·by_cases hm : a ≤ 31
  ·by_cases hb0 : b = 0
   ·subst hb0; obtain rfl := HY.out ha hm rfl; clear HL HH HB HY; go_enter Try.func23, Try.ntmps23; go_wp2_with fail; go_ret; exact ⟨rfl, hbel _ _ _⟩
   ·obtain rfl := HB.out hb0; have hb1 : (b == 0) = false := beq_eq_false_iff_ne.2 hb0; clear HL HH HB HY; go_enter Try.func23, Try.ntmps23; go_wp2_with fail; go_ret; exact ⟨rfl, hbel _ _ _⟩
  ·obtain rfl := HH.out hm; clear HL HH HB HY; go_enter Try.func23, Try.ntmps23; go_wp2_with fail; go_ret; exact ⟨rfl, hbel _ _ _⟩
 ·obtain rfl := HL.out ha; clear HL HH HB HY; go_enter Try.func23, Try.ntmps23; go_wp2_with fail; go_ret; exact ⟨rfl, hbel _ _ _⟩
set_option maxRecDepth 100000 in
set_option maxHeartbeats 4000000 in
theorem fits_21 (nps nns : Nat) (p : Pce) (a b : Int) (A A' Ab : Option Addr) (c c' cb : Nat) (w : World) (hl : -9223372036854775807 ≤ p.locals ∧ p.locals ≤ 32) (hb : p.body.length ≤ 2048) (hn : nps ≤ 32) :
  Calls Try.prog 23 #[codV A nps c A' nns c', pceV p Ab cb, insV ⟨21, a, b⟩] w fun e w' => e = .returned (.bool (fitS nps nns p ⟨21, a, b⟩)) ∧ Below w.heap.size w w' := by
 have hbel : ∀ o o' o2 : Obj, Below w.heap.size w (((w.alloc o).alloc o').alloc o2) := fun o o' o2 => (((Below.refl _ _).alloc (Nat.le_refl _) o).alloc (by simp) o').alloc (by simp; omega) o2
 have hw1 : IntKind.i64.wrap (p.locals - 1) = p.locals - 1 := IntWalk.i64_in _ (by omega); have hw2 : IntKind.i64.wrap ((p.body.length : Int) - 1) = (p.body.length : Int) - 1 := IntWalk.i64_in _ (by omega); have hw3 : IntKind.i64.wrap ((nps : Int) - 1) = (nps : Int) - 1 := IntWalk.i64_in _ (by omega); unfold codV insV pceV; have hlo := fun h => fit_lo (nps := nps) (nns := nns) (p := p) (i := ⟨21, a, b⟩) h
 have hhi := fun h => fit_hi (nps := nps) (nns := nns) (p := p) (i := ⟨21, a, b⟩) h
 have hbb := fun h => fit_b (nps := nps) (nns := nns) (p := p) (i := ⟨21, a, b⟩) h (by simp)
 have hye := fun h g1 g2 => fit_yes (nps := nps) (nns := nns) (p := p) (i := ⟨21, a, b⟩) (by simp) h g1 g2 (by simp)
 rw [show mostS nps p ⟨21, a, b⟩ = 31 from by simp [mostS]] at hhi hye; simp only at hlo hhi hbb hye; have HL := Lib.hid hlo; have HH := Lib.hid hhi; have HB := Lib.hid hbb; have HY := Lib.hid hye; clear hlo hhi hbb hye; generalize fitS nps nns p ⟨21, a, b⟩ = Fv at *
 by_cases ha : 0 ≤ a
 ·by_cases hm : a ≤ 31
  ·by_cases hb0 : b = 0
   ·subst hb0; obtain rfl := HY.out ha hm rfl; clear HL HH HB HY; go_enter Try.func23, Try.ntmps23; go_wp2_with fail; go_ret; exact ⟨rfl, hbel _ _ _⟩
   ·obtain rfl := HB.out hb0; have hb1 : (b == 0) = false := beq_eq_false_iff_ne.2 hb0; clear HL HH HB HY; go_enter Try.func23, Try.ntmps23; go_wp2_with fail; go_ret; exact ⟨rfl, hbel _ _ _⟩
  ·obtain rfl := HH.out hm; clear HL HH HB HY; go_enter Try.func23, Try.ntmps23; go_wp2_with fail; go_ret; exact ⟨rfl, hbel _ _ _⟩
 ·obtain rfl := HL.out ha; clear HL HH HB HY; go_enter Try.func23, Try.ntmps23; go_wp2_with fail; go_ret; exact ⟨rfl, hbel _ _ _⟩
set_option maxRecDepth 100000 in
set_option maxHeartbeats 4000000 in
theorem fits_30 (nps nns : Nat) (p : Pce) (a b : Int) (A A' Ab : Option Addr) (c c' cb : Nat) (w : World) (hl : -9223372036854775807 ≤ p.locals ∧ p.locals ≤ 32) (hb : p.body.length ≤ 2048) (hn : nps ≤ 32) :
  Calls Try.prog 23 #[codV A nps c A' nns c', pceV p Ab cb, insV ⟨30, a, b⟩] w fun e w' => e = .returned (.bool (fitS nps nns p ⟨30, a, b⟩)) ∧ Below w.heap.size w w' := by
 have hbel : ∀ o o' o2 : Obj, Below w.heap.size w (((w.alloc o).alloc o').alloc o2) := fun o o' o2 => (((Below.refl _ _).alloc (Nat.le_refl _) o).alloc (by simp) o').alloc (by simp; omega) o2
 have hw1 : IntKind.i64.wrap (p.locals - 1) = p.locals - 1 := IntWalk.i64_in _ (by omega); have hw2 : IntKind.i64.wrap ((p.body.length : Int) - 1) = (p.body.length : Int) - 1 := IntWalk.i64_in _ (by omega); have hw3 : IntKind.i64.wrap ((nps : Int) - 1) = (nps : Int) - 1 := IntWalk.i64_in _ (by omega); unfold codV insV pceV; have hF := Lib.hid (fit_reach (nps := nps) (nns := nns) (p := p) (i := ⟨30, a, b⟩) rfl); generalize fitS nps nns p ⟨30, a, b⟩ = Fv at *
 by_cases ha : 0 ≤ a
 ·by_cases ha2 : a ≤ 8
  ·by_cases hb0 : 0 ≤ b
   ·by_cases hb1 : b < (nns : Int)
    ·obtain rfl : Fv = true := by rw [hF.out]; simp [ha, ha2, hb0, hb1]
     clear hF; go_enter Try.func23, Try.ntmps23; go_wp2_with fail; go_ret; exact ⟨rfl, hbel _ _ _⟩
    ·obtain rfl : Fv = false := by rw [hF.out]; simp [hb1]
     clear hF; go_enter Try.func23, Try.ntmps23; go_wp2_with fail; go_ret; exact ⟨rfl, hbel _ _ _⟩
   ·obtain rfl : Fv = false := by rw [hF.out]; simp [hb0]
    clear hF; go_enter Try.func23, Try.ntmps23; go_wp2_with fail; go_ret; exact ⟨rfl, hbel _ _ _⟩
  ·obtain rfl : Fv = false := by rw [hF.out]; simp [ha2]
   clear hF; go_enter Try.func23, Try.ntmps23; go_wp2_with fail; go_ret; exact ⟨rfl, hbel _ _ _⟩
 ·obtain rfl : Fv = false := by rw [hF.out]; simp [ha]
  clear hF; go_enter Try.func23, Try.ntmps23; go_wp2_with fail; go_ret; exact ⟨rfl, hbel _ _ _⟩
set_option maxRecDepth 100000 in
set_option maxHeartbeats 4000000 in
theorem fits_other (nps nns : Nat) (p : Pce) (op a b : Int) (A A' Ab : Option Addr) (c c' cb : Nat) (w : World) (hl : -9223372036854775807 ≤ p.locals ∧ p.locals ≤ 32) (hb : p.body.length ≤ 2048) (hn : nps ≤ 32) (n1 : op ≠ 1) (n3 : op ≠ 3) (n4 : op ≠ 4) (n14 : op ≠ 14) (n15 : op ≠ 15) (n16 : op ≠ 16) (n18 : op ≠ 18) (n19 : op ≠ 19) (n20 : op ≠ 20) (n21 : op ≠ 21) (n30 : op ≠ 30) :
  Calls Try.prog 23 #[codV A nps c A' nns c', pceV p Ab cb, insV ⟨op, a, b⟩] w fun e w' => e = .returned (.bool (fitS nps nns p ⟨op, a, b⟩)) ∧ Below w.heap.size w w' := by
 have hbel : ∀ o o' o2 : Obj, Below w.heap.size w (((w.alloc o).alloc o').alloc o2) := fun o o' o2 => (((Below.refl _ _).alloc (Nat.le_refl _) o).alloc (by simp) o').alloc (by simp; omega) o2
 have hw1 : IntKind.i64.wrap (p.locals - 1) = p.locals - 1 := IntWalk.i64_in _ (by omega); have hw2 : IntKind.i64.wrap ((p.body.length : Int) - 1) = (p.body.length : Int) - 1 := IntWalk.i64_in _ (by omega); have hw3 : IntKind.i64.wrap ((nps : Int) - 1) = (nps : Int) - 1 := IntWalk.i64_in _ (by omega); unfold codV insV pceV; have q1 : (op == 1) = false := beq_eq_false_iff_ne.2 n1; have q3 : (op == 3) = false := beq_eq_false_iff_ne.2 n3; have q4 : (op == 4) = false := beq_eq_false_iff_ne.2 n4; have q14 : (op == 14) = false := beq_eq_false_iff_ne.2 n14; have q15 : (op == 15) = false := beq_eq_false_iff_ne.2 n15; have q16 : (op == 16) = false := beq_eq_false_iff_ne.2 n16; have q18 : (op == 18) = false := beq_eq_false_iff_ne.2 n18; have q19 : (op == 19) = false := beq_eq_false_iff_ne.2 n19; have q20 : (op == 20) = false := beq_eq_false_iff_ne.2 n20; have q21 : (op == 21) = false := beq_eq_false_iff_ne.2 n21; have q30 : (op == 30) = false := beq_eq_false_iff_ne.2 n30
 by_cases h1 : 1 ≤ op
 ·by_cases h2 : op ≤ 30
  ·as_aux_lemma =>
   have hlo := fun h => fit_lo (nps := nps) (nns := nns) (p := p) (i := ⟨op, a, b⟩) h
   have hhi := fun h => fit_hi (nps := nps) (nns := nns) (p := p) (i := ⟨op, a, b⟩) h
   have hbb := fun h => fit_b (nps := nps) (nns := nns) (p := p) (i := ⟨op, a, b⟩) h n30
   have hye := fun h g1 g2 => fit_yes (nps := nps) (nns := nns) (p := p) (i := ⟨op, a, b⟩) ⟨h1, h2⟩ h g1 g2 n30
   rw [show mostS nps p ⟨op, a, b⟩ = 0 from by unfold mostS; simp only; rw [if_neg n1, if_neg (by omega), if_neg (by omega), if_neg n16, if_neg (by omega), if_neg n30]] at hhi hye; simp only at hlo hhi hbb hye; have HL := Lib.hid hlo; have HH := Lib.hid hhi; have HB := Lib.hid hbb; have HY := Lib.hid hye; clear hlo hhi hbb hye; generalize fitS nps nns p ⟨op, a, b⟩ = Fv at *
   by_cases ha : 0 ≤ a
   ·by_cases hm : a ≤ 0
    ·by_cases hb0 : b = 0
     ·subst hb0; obtain rfl := HY.out ha hm rfl; clear HL HH HB HY; go_enter Try.func23, Try.ntmps23; go_wp2_with fail; go_ret; exact ⟨rfl, hbel _ _ _⟩
     ·obtain rfl := HB.out hb0; have hb1 : (b == 0) = false := beq_eq_false_iff_ne.2 hb0; clear HL HH HB HY; go_enter Try.func23, Try.ntmps23; go_wp2_with fail; go_ret; exact ⟨rfl, hbel _ _ _⟩
    ·obtain rfl := HH.out hm; clear HL HH HB HY; go_enter Try.func23, Try.ntmps23; go_wp2_with fail; go_ret; exact ⟨rfl, hbel _ _ _⟩
   ·obtain rfl := HL.out ha; clear HL HH HB HY; go_enter Try.func23, Try.ntmps23; go_wp2_with fail; go_ret; exact ⟨rfl, hbel _ _ _⟩
  ·obtain hF : fitS nps nns p ⟨op, a, b⟩ = false := fit_op (fun h => h2 h.2); rw [hF]; clear hF; go_enter Try.func23, Try.ntmps23; go_wp2_with fail; go_ret; exact ⟨rfl, hbel _ _ _⟩
 ·obtain hF : fitS nps nns p ⟨op, a, b⟩ = false := fit_op (fun h => h1 h.1); rw [hF]; clear hF; go_enter Try.func23, Try.ntmps23; go_wp2_with fail; go_ret; exact ⟨rfl, hbel _ _ _⟩
theorem opfits_any (nps nns : Nat) (p : Pce) (i : Ins) (A A' Ab : Option Addr) (c c' cb : Nat) (w : World) (hl : -9223372036854775807 ≤ p.locals ∧ p.locals ≤ 32) (hb : p.body.length ≤ 2048) (hn : nps ≤ 32) :
  Calls Try.prog 23 #[codV A nps c A' nns c', pceV p Ab cb, insV i] w fun e w' => e = .returned (.bool (fitS nps nns p i)) ∧ Below w.heap.size w w' := by
 obtain ⟨op, a, b⟩ := i
 by_cases n1 : op = 1
 ·subst n1; exact fits_1 nps nns p a b A A' Ab c c' cb w hl hb hn
 by_cases n3 : op = 3
 ·subst n3; exact fits_3 nps nns p a b A A' Ab c c' cb w hl hb hn
 by_cases n4 : op = 4
 ·subst n4; exact fits_4 nps nns p a b A A' Ab c c' cb w hl hb hn
 by_cases n14 : op = 14
 ·subst n14; exact fits_14 nps nns p a b A A' Ab c c' cb w hl hb hn
 by_cases n15 : op = 15
 ·subst n15; exact fits_15 nps nns p a b A A' Ab c c' cb w hl hb hn
 by_cases n16 : op = 16
 ·subst n16; exact fits_16 nps nns p a b A A' Ab c c' cb w hl hb hn
 by_cases n18 : op = 18
 ·subst n18; exact fits_18 nps nns p a b A A' Ab c c' cb w hl hb hn
 by_cases n19 : op = 19
 ·subst n19; exact fits_19 nps nns p a b A A' Ab c c' cb w hl hb hn
 by_cases n20 : op = 20
 ·subst n20; exact fits_20 nps nns p a b A A' Ab c c' cb w hl hb hn
 by_cases n21 : op = 21
 ·subst n21; exact fits_21 nps nns p a b A A' Ab c c' cb w hl hb hn
 by_cases n30 : op = 30
 ·subst n30; exact fits_30 nps nns p a b A A' Ab c c' cb w hl hb hn
 exact fits_other nps nns p op a b A A' Ab c c' cb w hl hb hn n1 n3 n4 n14 n15 n16 n18 n19 n20 n21 n30
def rmostS (nps : Nat) (p : Pce) (i : Ins) : Int := if i.op = 16 then (if 0 ≤ i.a ∧ i.a < (nps : Int) then i.a else -1) else mostS nps p i
def rtakesS (ps : List Pce) (i : Ins) : Int := if i.op = 16 then (if 0 ≤ i.a ∧ i.a < (ps.length : Int) then takesS ps i else 0) else if i.op = 30 then wrap64 (i.a + 3) else takesS ps i
def rleavesS (nps : Nat) (i : Ins) : Int := if i.op = 16 then (if 0 ≤ i.a ∧ i.a < (nps : Int) then 1 else 0) else leavesS i
theorem rmost_iff {nps : Nat} {p : Pce} {i : Ins} (h : 0 ≤ i.a) : i.a ≤ rmostS nps p i ↔ i.a ≤ mostS nps p i := by
 unfold rmostS
 by_cases e : i.op = 16
 ·rw [if_pos e]; have hm : mostS nps p i = (nps : Int) - 1 := by unfold mostS; simp [e]
  rw [hm]
  by_cases e2 : 0 ≤ i.a ∧ i.a < (nps : Int)
  ·rw [if_pos e2]; omega
  ·rw [if_neg e2]; omega
 ·rw [if_neg e]
theorem rtakes_eq {ps : List Pce} {i : Ins} (h : i.op = 16 → 0 ≤ i.a ∧ i.a < (ps.length : Int)) (h2 : i.op = 30 → 0 ≤ i.a ∧ i.a ≤ 8) : rtakesS ps i = takesS ps i ∧ rleavesS ps.length i = leavesS i := by
 unfold rtakesS rleavesS
 by_cases e : i.op = 16
 ·rw [if_pos e, if_pos (h e), if_pos e, if_pos (h e)]; exact ⟨rfl, by unfold leavesS; simp [e]⟩
 ·rw [if_neg e, if_neg e]
  by_cases e2 : i.op = 30
  ·rw [if_pos e2]; have := h2 e2; refine ⟨?_, rfl⟩; have hw : wrap64 (i.a + 3) = i.a + 3 := by rw [← IntWalk.i64_left]; exact IntWalk.i64_in _ (by omega)
   rw [hw]; unfold takesS; simp [e2]
  ·rw [if_neg e2]; exact ⟨rfl, rfl⟩
set_option maxRecDepth 100000 in
set_option maxHeartbeats 8000000 in
theorem table_any (ps : List Pce) (nns : Nat) (p : Pce) (i : Ins) (A A' Ab : Option Addr) (c c' cb B : Nat) (w : World) (h : PcsR w B A ps) (hB : B ≤ w.heap.size) (hop : 1 ≤ i.op ∧ i.op ≤ 30) (hl : -9223372036854775807 ≤ p.locals ∧ p.locals ≤ 32) (hb : p.body.length ≤ 2048) (hps : ps.length ≤ 1000000) :
  Calls Try.prog 19 #[codV A ps.length c A' nns c', pceV p Ab cb, insV i] w fun e w' => e = .returned (.tuple #[.int .i64 (rtakesS ps i), .int .i64 (rleavesS ps.length i), .int .i64 (rmostS ps.length p i)]) ∧ Below w.heap.size w w' := by
 have hbel : ∀ o o' o2 : Obj, Below w.heap.size w (((w.alloc o).alloc o').alloc o2) := fun o o' o2 => (((Below.refl _ _).alloc (Nat.le_refl _) o).alloc (by simp) o').alloc (by simp; omega) o2
 have hw1 : IntKind.i64.wrap (p.locals - 1) = p.locals - 1 := IntWalk.i64_in _ (by omega); have hw2 : IntKind.i64.wrap ((p.body.length : Int) - 1) = (p.body.length : Int) - 1 := IntWalk.i64_in _ (by omega); obtain ⟨op, a, b⟩ := i; simp only at hop; have HP := Lib.hid h; clear h; unfold codV insV pceV; have hall := thirty hop; clear hop
 rcases hall with rfl | rfl | rfl | rfl | rfl | rfl | rfl | rfl | rfl | rfl | rfl | rfl | rfl | rfl | rfl | rfl | rfl | rfl | rfl | rfl | rfl | rfl | rfl | rfl | rfl | rfl | rfl | rfl | rfl | rfl
 ·rw [show rtakesS ps ⟨1, a, b⟩ = 0 from by simp [rtakesS, takesS], show rmostS ps.length p ⟨1, a, b⟩ = 1099511627775 from by simp [rmostS, mostS], show rleavesS ps.length ⟨1, a, b⟩ = 1 from by simp [rleavesS, leavesS]]; clear HP; go_enter Try.func19, Try.ntmps19; go_wp2_with fail; refine bodyPost_ret (v := .tuple #[.int .i64 (0), .int .i64 (1), .int .i64 (1099511627775)]) (by simp [results, Try.results19, go_sem]) rfl ⟨rfl, hbel _ _ _⟩
 ·rw [show rtakesS ps ⟨2, a, b⟩ = 1 from by simp [rtakesS, takesS], show rmostS ps.length p ⟨2, a, b⟩ = 0 from by simp [rmostS, mostS], show rleavesS ps.length ⟨2, a, b⟩ = 0 from by simp [rleavesS, leavesS]]; clear HP; go_enter Try.func19, Try.ntmps19; go_wp2_with fail; refine bodyPost_ret (v := .tuple #[.int .i64 (1), .int .i64 (0), .int .i64 (0)]) (by simp [results, Try.results19, go_sem]) rfl ⟨rfl, hbel _ _ _⟩
 ·rw [show rtakesS ps ⟨3, a, b⟩ = 0 from by simp [rtakesS, takesS], show rmostS ps.length p ⟨3, a, b⟩ = p.locals - 1 from by simp [rmostS, mostS], show rleavesS ps.length ⟨3, a, b⟩ = 1 from by simp [rleavesS, leavesS]]; clear HP; go_enter Try.func19, Try.ntmps19; go_wp2_with fail; refine bodyPost_ret (v := .tuple #[.int .i64 (0), .int .i64 (1), .int .i64 (p.locals - 1)]) (by simp [results, Try.results19, go_sem]) rfl ⟨rfl, hbel _ _ _⟩
 ·rw [show rtakesS ps ⟨4, a, b⟩ = 1 from by simp [rtakesS, takesS], show rmostS ps.length p ⟨4, a, b⟩ = p.locals - 1 from by simp [rmostS, mostS], show rleavesS ps.length ⟨4, a, b⟩ = 0 from by simp [rleavesS, leavesS]]; clear HP; go_enter Try.func19, Try.ntmps19; go_wp2_with fail; refine bodyPost_ret (v := .tuple #[.int .i64 (1), .int .i64 (0), .int .i64 (p.locals - 1)]) (by simp [results, Try.results19, go_sem]) rfl ⟨rfl, hbel _ _ _⟩
 ·rw [show rtakesS ps ⟨5, a, b⟩ = 2 from by simp [rtakesS, takesS], show rmostS ps.length p ⟨5, a, b⟩ = 0 from by simp [rmostS, mostS], show rleavesS ps.length ⟨5, a, b⟩ = 1 from by simp [rleavesS, leavesS]]; clear HP; go_enter Try.func19, Try.ntmps19; go_wp2_with fail; refine bodyPost_ret (v := .tuple #[.int .i64 (2), .int .i64 (1), .int .i64 (0)]) (by simp [results, Try.results19, go_sem]) rfl ⟨rfl, hbel _ _ _⟩
 ·rw [show rtakesS ps ⟨6, a, b⟩ = 2 from by simp [rtakesS, takesS], show rmostS ps.length p ⟨6, a, b⟩ = 0 from by simp [rmostS, mostS], show rleavesS ps.length ⟨6, a, b⟩ = 1 from by simp [rleavesS, leavesS]]; clear HP; go_enter Try.func19, Try.ntmps19; go_wp2_with fail; refine bodyPost_ret (v := .tuple #[.int .i64 (2), .int .i64 (1), .int .i64 (0)]) (by simp [results, Try.results19, go_sem]) rfl ⟨rfl, hbel _ _ _⟩
 ·rw [show rtakesS ps ⟨7, a, b⟩ = 2 from by simp [rtakesS, takesS], show rmostS ps.length p ⟨7, a, b⟩ = 0 from by simp [rmostS, mostS], show rleavesS ps.length ⟨7, a, b⟩ = 1 from by simp [rleavesS, leavesS]]; clear HP; go_enter Try.func19, Try.ntmps19; go_wp2_with fail; refine bodyPost_ret (v := .tuple #[.int .i64 (2), .int .i64 (1), .int .i64 (0)]) (by simp [results, Try.results19, go_sem]) rfl ⟨rfl, hbel _ _ _⟩
 ·rw [show rtakesS ps ⟨8, a, b⟩ = 2 from by simp [rtakesS, takesS], show rmostS ps.length p ⟨8, a, b⟩ = 0 from by simp [rmostS, mostS], show rleavesS ps.length ⟨8, a, b⟩ = 1 from by simp [rleavesS, leavesS]]; clear HP; go_enter Try.func19, Try.ntmps19; go_wp2_with fail; refine bodyPost_ret (v := .tuple #[.int .i64 (2), .int .i64 (1), .int .i64 (0)]) (by simp [results, Try.results19, go_sem]) rfl ⟨rfl, hbel _ _ _⟩
 ·rw [show rtakesS ps ⟨9, a, b⟩ = 2 from by simp [rtakesS, takesS], show rmostS ps.length p ⟨9, a, b⟩ = 0 from by simp [rmostS, mostS], show rleavesS ps.length ⟨9, a, b⟩ = 1 from by simp [rleavesS, leavesS]]; clear HP; go_enter Try.func19, Try.ntmps19; go_wp2_with fail; refine bodyPost_ret (v := .tuple #[.int .i64 (2), .int .i64 (1), .int .i64 (0)]) (by simp [results, Try.results19, go_sem]) rfl ⟨rfl, hbel _ _ _⟩
 ·rw [show rtakesS ps ⟨10, a, b⟩ = 2 from by simp [rtakesS, takesS], show rmostS ps.length p ⟨10, a, b⟩ = 0 from by simp [rmostS, mostS], show rleavesS ps.length ⟨10, a, b⟩ = 1 from by simp [rleavesS, leavesS]]; clear HP; go_enter Try.func19, Try.ntmps19; go_wp2_with fail; refine bodyPost_ret (v := .tuple #[.int .i64 (2), .int .i64 (1), .int .i64 (0)]) (by simp [results, Try.results19, go_sem]) rfl ⟨rfl, hbel _ _ _⟩
 ·rw [show rtakesS ps ⟨11, a, b⟩ = 2 from by simp [rtakesS, takesS], show rmostS ps.length p ⟨11, a, b⟩ = 0 from by simp [rmostS, mostS], show rleavesS ps.length ⟨11, a, b⟩ = 1 from by simp [rleavesS, leavesS]]; clear HP; go_enter Try.func19, Try.ntmps19; go_wp2_with fail; refine bodyPost_ret (v := .tuple #[.int .i64 (2), .int .i64 (1), .int .i64 (0)]) (by simp [results, Try.results19, go_sem]) rfl ⟨rfl, hbel _ _ _⟩
 ·rw [show rtakesS ps ⟨12, a, b⟩ = 2 from by simp [rtakesS, takesS], show rmostS ps.length p ⟨12, a, b⟩ = 0 from by simp [rmostS, mostS], show rleavesS ps.length ⟨12, a, b⟩ = 1 from by simp [rleavesS, leavesS]]; clear HP; go_enter Try.func19, Try.ntmps19; go_wp2_with fail; refine bodyPost_ret (v := .tuple #[.int .i64 (2), .int .i64 (1), .int .i64 (0)]) (by simp [results, Try.results19, go_sem]) rfl ⟨rfl, hbel _ _ _⟩
 ·rw [show rtakesS ps ⟨13, a, b⟩ = 1 from by simp [rtakesS, takesS], show rmostS ps.length p ⟨13, a, b⟩ = 0 from by simp [rmostS, mostS], show rleavesS ps.length ⟨13, a, b⟩ = 1 from by simp [rleavesS, leavesS]]; clear HP; go_enter Try.func19, Try.ntmps19; go_wp2_with fail; refine bodyPost_ret (v := .tuple #[.int .i64 (1), .int .i64 (1), .int .i64 (0)]) (by simp [results, Try.results19, go_sem]) rfl ⟨rfl, hbel _ _ _⟩
 ·rw [show rtakesS ps ⟨14, a, b⟩ = 0 from by simp [rtakesS, takesS], show rmostS ps.length p ⟨14, a, b⟩ = (p.body.length : Int) - 1 from by simp [rmostS, mostS], show rleavesS ps.length ⟨14, a, b⟩ = 0 from by simp [rleavesS, leavesS]]; clear HP; go_enter Try.func19, Try.ntmps19; go_wp2_with fail; refine bodyPost_ret (v := .tuple #[.int .i64 (0), .int .i64 (0), .int .i64 ((p.body.length : Int) - 1)]) (by simp [results, Try.results19, go_sem]) rfl ⟨rfl, hbel _ _ _⟩
 ·rw [show rtakesS ps ⟨15, a, b⟩ = 1 from by simp [rtakesS, takesS], show rmostS ps.length p ⟨15, a, b⟩ = (p.body.length : Int) - 1 from by simp [rmostS, mostS], show rleavesS ps.length ⟨15, a, b⟩ = 0 from by simp [rleavesS, leavesS]]; clear HP; go_enter Try.func19, Try.ntmps19; go_wp2_with fail; refine bodyPost_ret (v := .tuple #[.int .i64 (1), .int .i64 (0), .int .i64 ((p.body.length : Int) - 1)]) (by simp [results, Try.results19, go_sem]) rfl ⟨rfl, hbel _ _ _⟩
 ·by_cases hr : 0 ≤ a ∧ a < (ps.length : Int)
  ·have hT : rtakesS ps ⟨16, a, b⟩ = takesS ps ⟨16, a, b⟩ := by unfold rtakesS; simp [hr]
   have hM : rmostS ps.length p ⟨16, a, b⟩ = a := by unfold rmostS; simp [hr]
   have hL : rleavesS ps.length ⟨16, a, b⟩ = 1 := by unfold rleavesS; simp [hr]
   rw [hT, hM, hL]; clear hT hM hL; obtain ⟨k, rfl⟩ := Int.eq_ofNat_of_zero_le hr.1; have hk : k < ps.length := by omega
   obtain ⟨pb, off, A1, c1, rfl, hpb, _, _, hc, _, _, _⟩ := HP.out k hk; have HT : Hid (takesS ps ⟨16, (k : Int), b⟩ = ps[k].params) := by show _ = _; simp [takesS, hk]
   rw [HT.out]; clear HT; generalize ps[k].params = z at *; have hki : (k : Int) < (ps.length : Int) := hr.2; have hk0 : (0 : Int) ≤ (k : Int) := hr.1; have hc1 := fun o o' o2 => ((hbel o o' o2).cell (p := ⟨pb, off + k * 5 + 2, none⟩) (by simp; omega)).trans hc
   clear hr; go_enter Try.func19, Try.ntmps19; go_wp2_with fail
   go_region
   all_goals
    go_wp2_with fail; refine bodyPost_ret (v := .tuple #[.int .i64 z, .int .i64 1, .int .i64 (k : Int)]) (by simp [results, Try.results19, go_sem]) rfl ⟨rfl, (hbel _ _ _).drew⟩
  ·have hT : rtakesS ps ⟨16, a, b⟩ = 0 := by unfold rtakesS; simp [hr]
   have hM : rmostS ps.length p ⟨16, a, b⟩ = -1 := by unfold rmostS; simp [hr]
   have hL : rleavesS ps.length ⟨16, a, b⟩ = 0 := by unfold rleavesS; simp [hr]
   rw [hT, hM, hL]; clear hT hM hL
   by_cases h0 : a < 0
   ·clear hr; go_enter Try.func19, Try.ntmps19; go_wp2_with fail; refine bodyPost_ret (v := .tuple #[.int .i64 (0), .int .i64 (0), .int .i64 (-1)]) (by simp [results, Try.results19, go_sem]) rfl ⟨rfl, hbel _ _ _⟩
   ·have h1 : (ps.length : Int) ≤ a := by omega
    clear hr; go_enter Try.func19, Try.ntmps19; go_wp2_with fail; refine bodyPost_ret (v := .tuple #[.int .i64 (0), .int .i64 (0), .int .i64 (-1)]) (by simp [results, Try.results19, go_sem]) rfl ⟨rfl, hbel _ _ _⟩
 ·rw [show rtakesS ps ⟨17, a, b⟩ = 1 from by simp [rtakesS, takesS], show rmostS ps.length p ⟨17, a, b⟩ = 0 from by simp [rmostS, mostS], show rleavesS ps.length ⟨17, a, b⟩ = 0 from by simp [rleavesS, leavesS]]; clear HP; go_enter Try.func19, Try.ntmps19; go_wp2_with fail; refine bodyPost_ret (v := .tuple #[.int .i64 (1), .int .i64 (0), .int .i64 (0)]) (by simp [results, Try.results19, go_sem]) rfl ⟨rfl, hbel _ _ _⟩
 ·rw [show rtakesS ps ⟨18, a, b⟩ = 0 from by simp [rtakesS, takesS], show rmostS ps.length p ⟨18, a, b⟩ = 31 from by simp [rmostS, mostS], show rleavesS ps.length ⟨18, a, b⟩ = 1 from by simp [rleavesS, leavesS]]; clear HP; go_enter Try.func19, Try.ntmps19; go_wp2_with fail; refine bodyPost_ret (v := .tuple #[.int .i64 (0), .int .i64 (1), .int .i64 (31)]) (by simp [results, Try.results19, go_sem]) rfl ⟨rfl, hbel _ _ _⟩
 ·rw [show rtakesS ps ⟨19, a, b⟩ = 1 from by simp [rtakesS, takesS], show rmostS ps.length p ⟨19, a, b⟩ = 31 from by simp [rmostS, mostS], show rleavesS ps.length ⟨19, a, b⟩ = 0 from by simp [rleavesS, leavesS]]; clear HP; go_enter Try.func19, Try.ntmps19; go_wp2_with fail; refine bodyPost_ret (v := .tuple #[.int .i64 (1), .int .i64 (0), .int .i64 (31)]) (by simp [results, Try.results19, go_sem]) rfl ⟨rfl, hbel _ _ _⟩
 ·rw [show rtakesS ps ⟨20, a, b⟩ = 1 from by simp [rtakesS, takesS], show rmostS ps.length p ⟨20, a, b⟩ = 31 from by simp [rmostS, mostS], show rleavesS ps.length ⟨20, a, b⟩ = 1 from by simp [rleavesS, leavesS]]; clear HP; go_enter Try.func19, Try.ntmps19; go_wp2_with fail; refine bodyPost_ret (v := .tuple #[.int .i64 (1), .int .i64 (1), .int .i64 (31)]) (by simp [results, Try.results19, go_sem]) rfl ⟨rfl, hbel _ _ _⟩
 ·rw [show rtakesS ps ⟨21, a, b⟩ = 2 from by simp [rtakesS, takesS], show rmostS ps.length p ⟨21, a, b⟩ = 31 from by simp [rmostS, mostS], show rleavesS ps.length ⟨21, a, b⟩ = 0 from by simp [rleavesS, leavesS]]; clear HP; go_enter Try.func19, Try.ntmps19; go_wp2_with fail; refine bodyPost_ret (v := .tuple #[.int .i64 (2), .int .i64 (0), .int .i64 (31)]) (by simp [results, Try.results19, go_sem]) rfl ⟨rfl, hbel _ _ _⟩
 ·rw [show rtakesS ps ⟨22, a, b⟩ = 0 from by simp [rtakesS, takesS], show rmostS ps.length p ⟨22, a, b⟩ = 0 from by simp [rmostS, mostS], show rleavesS ps.length ⟨22, a, b⟩ = 1 from by simp [rleavesS, leavesS]]; clear HP; go_enter Try.func19, Try.ntmps19; go_wp2_with fail; refine bodyPost_ret (v := .tuple #[.int .i64 (0), .int .i64 (1), .int .i64 (0)]) (by simp [results, Try.results19, go_sem]) rfl ⟨rfl, hbel _ _ _⟩
 ·rw [show rtakesS ps ⟨23, a, b⟩ = 0 from by simp [rtakesS, takesS], show rmostS ps.length p ⟨23, a, b⟩ = 0 from by simp [rmostS, mostS], show rleavesS ps.length ⟨23, a, b⟩ = 1 from by simp [rleavesS, leavesS]]; clear HP; go_enter Try.func19, Try.ntmps19; go_wp2_with fail; refine bodyPost_ret (v := .tuple #[.int .i64 (0), .int .i64 (1), .int .i64 (0)]) (by simp [results, Try.results19, go_sem]) rfl ⟨rfl, hbel _ _ _⟩
 ·rw [show rtakesS ps ⟨24, a, b⟩ = 0 from by simp [rtakesS, takesS], show rmostS ps.length p ⟨24, a, b⟩ = 0 from by simp [rmostS, mostS], show rleavesS ps.length ⟨24, a, b⟩ = 1 from by simp [rleavesS, leavesS]]; clear HP; go_enter Try.func19, Try.ntmps19; go_wp2_with fail; refine bodyPost_ret (v := .tuple #[.int .i64 (0), .int .i64 (1), .int .i64 (0)]) (by simp [results, Try.results19, go_sem]) rfl ⟨rfl, hbel _ _ _⟩
 ·rw [show rtakesS ps ⟨25, a, b⟩ = 0 from by simp [rtakesS, takesS], show rmostS ps.length p ⟨25, a, b⟩ = 0 from by simp [rmostS, mostS], show rleavesS ps.length ⟨25, a, b⟩ = 1 from by simp [rleavesS, leavesS]]; clear HP; go_enter Try.func19, Try.ntmps19; go_wp2_with fail; refine bodyPost_ret (v := .tuple #[.int .i64 (0), .int .i64 (1), .int .i64 (0)]) (by simp [results, Try.results19, go_sem]) rfl ⟨rfl, hbel _ _ _⟩
 ·rw [show rtakesS ps ⟨26, a, b⟩ = 1 from by simp [rtakesS, takesS], show rmostS ps.length p ⟨26, a, b⟩ = 0 from by simp [rmostS, mostS], show rleavesS ps.length ⟨26, a, b⟩ = 1 from by simp [rleavesS, leavesS]]; clear HP; go_enter Try.func19, Try.ntmps19; go_wp2_with fail; refine bodyPost_ret (v := .tuple #[.int .i64 (1), .int .i64 (1), .int .i64 (0)]) (by simp [results, Try.results19, go_sem]) rfl ⟨rfl, hbel _ _ _⟩
 ·rw [show rtakesS ps ⟨27, a, b⟩ = 2 from by simp [rtakesS, takesS], show rmostS ps.length p ⟨27, a, b⟩ = 0 from by simp [rmostS, mostS], show rleavesS ps.length ⟨27, a, b⟩ = 0 from by simp [rleavesS, leavesS]]; clear HP; go_enter Try.func19, Try.ntmps19; go_wp2_with fail; refine bodyPost_ret (v := .tuple #[.int .i64 (2), .int .i64 (0), .int .i64 (0)]) (by simp [results, Try.results19, go_sem]) rfl ⟨rfl, hbel _ _ _⟩
 ·rw [show rtakesS ps ⟨28, a, b⟩ = 1 from by simp [rtakesS, takesS], show rmostS ps.length p ⟨28, a, b⟩ = 0 from by simp [rmostS, mostS], show rleavesS ps.length ⟨28, a, b⟩ = 0 from by simp [rleavesS, leavesS]]; clear HP; go_enter Try.func19, Try.ntmps19; go_wp2_with fail; refine bodyPost_ret (v := .tuple #[.int .i64 (1), .int .i64 (0), .int .i64 (0)]) (by simp [results, Try.results19, go_sem]) rfl ⟨rfl, hbel _ _ _⟩
 ·rw [show rtakesS ps ⟨29, a, b⟩ = 1 from by simp [rtakesS, takesS], show rmostS ps.length p ⟨29, a, b⟩ = 0 from by simp [rmostS, mostS], show rleavesS ps.length ⟨29, a, b⟩ = 0 from by simp [rleavesS, leavesS]]; clear HP; go_enter Try.func19, Try.ntmps19; go_wp2_with fail; refine bodyPost_ret (v := .tuple #[.int .i64 (1), .int .i64 (0), .int .i64 (0)]) (by simp [results, Try.results19, go_sem]) rfl ⟨rfl, hbel _ _ _⟩
 ·rw [show rtakesS ps ⟨30, a, b⟩ = wrap64 (a + 3) from by simp [rtakesS, takesS], show rmostS ps.length p ⟨30, a, b⟩ = 8 from by simp [rmostS, mostS], show rleavesS ps.length ⟨30, a, b⟩ = 2 from by simp [rleavesS, leavesS]]; clear HP; go_enter Try.func19, Try.ntmps19; go_wp2_with fail; refine bodyPost_ret (v := .tuple #[.int .i64 (wrap64 (a + 3)), .int .i64 (2), .int .i64 (8)]) (by simp [results, Try.results19, go_sem]) rfl ⟨rfl, hbel _ _ _⟩
end Go.Proofs.Ytgjbcahpgkchfaa
