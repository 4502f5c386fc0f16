/- Code in memory: instructions, functions; how many numbers an instruction takes and leaves, by package code. -/
import Derived.Test.YtkcnoljjilhpoaaProg
import Derived.Test.YtkcnoljjilhpoaaCode1
import Derived.Test.YtkcnoljjilhpoaaDig0
namespace Go.Proofs.Ytkcnoljjilhpoaa
open Go.RowKit
/-- instructions in memory -/
def InsR (w : World) (B : Nat) (A : Option Addr) (I : List Ins) : Prop :=
  ∀ k (hk : k < I.length), ∃ b off, A = some ⟨b, off, none⟩ ∧ b < B ∧ w.cell? ⟨b, off + k * 3, none⟩ = some (.int .i64 I[k].op) ∧ w.cell? ⟨b, off + k * 3 + 1, none⟩ = some (.int .i64 I[k].a) ∧ w.cell? ⟨b, off + k * 3 + 2, none⟩ = some (.int .i64 I[k].b)
theorem InsR.below {w w' : World} {B : Nat} {A : Option Addr} {I : List Ins} (h : InsR w B A I) (hb : Below B w w') : InsR w' B A I := fun k hk => by
  obtain ⟨b, off, e, h1, h2, h3, h4⟩ := h k hk
  exact ⟨b, off, e, h1, (hb.cell (p := ⟨b, off + k * 3, none⟩) h1).trans h2, (hb.cell (p := ⟨b, off + k * 3 + 1, none⟩) h1).trans h3, (hb.cell (p := ⟨b, off + k * 3 + 2, none⟩) h1).trans h4⟩
/-- functions in memory -/
def PcsR (w : World) (B : Nat) (A : Option Addr) (ps : List Pce) : Prop :=
  ∀ k (hk : k < ps.length), ∃ b off A' c, A = some ⟨b, off, none⟩ ∧ b < B ∧ w.cell? ⟨b, off + k * 5, none⟩ = some (.string (bs ps[k].name)) ∧ w.cell? ⟨b, off + k * 5 + 1, none⟩ = some (.bool ps[k].opn) ∧ w.cell? ⟨b, off + k * 5 + 2, none⟩ = some (.int .i64 ps[k].params) ∧ w.cell? ⟨b, off + k * 5 + 3, none⟩ = some (.int .i64 ps[k].locals) ∧ w.cell? ⟨b, off + k * 5 + 4, none⟩ = some (.slice A' ps[k].body.length c) ∧ InsR w B A' ps[k].body
theorem PcsR.below {w w' : World} {B : Nat} {A : Option Addr} {ps : List Pce} (h : PcsR w B A ps) (hb : Below B w w') : PcsR w' B A ps := fun k hk => by
  obtain ⟨b, off, A', c, e, h1, h2, h3, h4, h5, h6, h7⟩ := h k hk
  exact ⟨b, off, A', c, e, h1, (hb.cell (p := ⟨b, off + k * 5, none⟩) h1).trans h2, (hb.cell (p := ⟨b, off + k * 5 + 1, none⟩) h1).trans h3, (hb.cell (p := ⟨b, off + k * 5 + 2, none⟩) h1).trans h4, (hb.cell (p := ⟨b, off + k * 5 + 3, none⟩) h1).trans h5, (hb.cell (p := ⟨b, off + k * 5 + 4, none⟩) h1).trans h6, h7.below hb⟩
theorem thirty {x : Int} (h : 1 ≤ x ∧ x ≤ 30) : x = 1 ∨ x = 2 ∨ x = 3 ∨ x = 4 ∨ x = 5 ∨ x = 6 ∨ x = 7 ∨ x = 8 ∨ x = 9 ∨ x = 10 ∨ x = 11 ∨ x = 12 ∨ x = 13 ∨ x = 14 ∨ x = 15 ∨ x = 16 ∨ x = 17 ∨ x = 18 ∨ x = 19 ∨ x = 20 ∨ x = 21 ∨ x = 22 ∨ x = 23 ∨ x = 24 ∨ x = 25 ∨ x = 26 ∨ x = 27 ∨ x = 28 ∨ x = 29 ∨ x = 30 := by omega
def insV (i : Ins) : Value := .agg #[.int .i64 i.op, .int .i64 i.a, .int .i64 i.b]
def codV (A : Option Addr) (n c : Nat) (A' : Option Addr) (n' c' : Nat) : Value := .agg #[.slice A n c, .slice A' n' c']
set_option maxRecDepth 100000 in
set_option maxHeartbeats 4000000 in
theorem effect_any (ps : List Pce) (i : Ins) (A A' : Option Addr) (n' c c' B : Nat) (w : World) (h : PcsR w B A ps) (hB : B ≤ w.heap.size) (hop : 1 ≤ i.op ∧ i.op ≤ 30) (h16 : i.op = 16 → 0 ≤ i.a ∧ i.a < ps.length) (h30 : i.op = 30 → 0 ≤ i.a ∧ i.a ≤ 8) (hps : ps.length ≤ 1000000) :
    Calls Try.prog 141 #[codV A ps.length c A' n' c', insV i] w fun e w' => e = .returned (.tuple #[.int .i64 (takesS ps i), .int .i64 (leavesS i)]) ∧ Below w.heap.size w w' := by
  have hbel : ∀ o o' : Obj, Below w.heap.size w ((w.alloc o).alloc o') := fun o o' => ((Below.refl _ _).alloc (Nat.le_refl _) o).alloc (by simp) o'
  obtain ⟨op, a, b⟩ := i
  simp only at hop h16 h30
  have HP := Lib.hid h
  clear h
  unfold codV insV
  by_cases h : op = 16
  · subst h
    obtain ⟨h0, h1⟩ := h16 rfl
    obtain ⟨k, rfl⟩ := Int.eq_ofNat_of_zero_le h0
    have hk : k < ps.length := by omega
    obtain ⟨pb, off, A1, c1, rfl, hb, _, _, hc, _, _, _⟩ := HP.out k hk
    have HT : Hid (takesS ps ⟨16, (k : Int), b⟩ = ps[k].params) := by show _ = _; simp [takesS, hk]
    have HL : Hid (leavesS ⟨16, (k : Int), b⟩ = 1) := rfl
    rw [HT.out, HL.out]
    clear HT HL
    generalize ps[k].params = z at *
    have hne : (pb == w.heap.size) = false := by simp; omega
    have hki : (k : Int) < (ps.length : Int) := h1
    have hk0 : (0 : Int) ≤ (k : Int) := h0
    have hc1 : ((w.alloc (.cells #[.slice (some ⟨pb, off, none⟩) ps.length c, .slice A' n' c'] 25)).alloc (.cells #[.int .i64 16, .int .i64 (k : Int), .int .i64 b] 125)).cell? ⟨pb, off + k * 5 + 2, none⟩ = some (.int .i64 z) := ((hbel _ _).cell (p := ⟨pb, off + k * 5 + 2, none⟩) (by simp; omega)).trans hc
    clear h16 h30 hop
    go_enter Try.func141, Try.ntmps141
    go_wp2_with fail
    go_ret2
    exact ⟨rfl, hbel _ _⟩
  have key : ∀ t l, takesS ps ⟨op, a, b⟩ = t → leavesS ⟨op, a, b⟩ = l → Hid (takesS ps ⟨op, a, b⟩ = t ∧ leavesS ⟨op, a, b⟩ = l) := fun _ _ x y => ⟨x, y⟩
  clear h16 HP
  have hall := thirty hop
  clear hop
  rcases hall with rfl | rfl | rfl | rfl | rfl | rfl | rfl | rfl | rfl | rfl | rfl | rfl | rfl | rfl | rfl | rfl | rfl | rfl | rfl | rfl | rfl | rfl | rfl | rfl | rfl | rfl | rfl | rfl | rfl | rfl
  all_goals
    first
    | (exfalso; exact h rfl)
    | (have e := h30 rfl
       clear h30
       have HK := key (a + 3) 2 (by simp [takesS]) (by simp [leavesS])
       rw [HK.out.1, HK.out.2]
       clear HK key
       go_enter Try.func141, Try.ntmps141
       go_wp2_with fail
       go_ret2
       exact ⟨rfl, hbel _ _⟩)
    | (have HK := key _ _ (by simp [takesS]; rfl) (by simp [leavesS]; rfl)
       rw [HK.out.1, HK.out.2]
       clear HK key h30
       go_enter Try.func141, Try.ntmps141
       go_wp2_with fail
       go_ret2
       exact ⟨rfl, hbel _ _⟩)
end Go.Proofs.Ytkcnoljjilhpoaa
