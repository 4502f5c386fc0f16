/- What package digest's and the reference's digests of lists compute: the tree above, the root. -/
import Derived.Test.YtjmkcndjjfokiaaProg
import Derived.Test.YtjmkcndjjfokiaaDig1
import Derived.Deep.RegionHeld3
import Derived.Deep.RegionLaw
namespace Go.Proofs.Ytjmkcndjjfokiaa
open Go.RowKit
theorem ret_u64 {a b : Int} (h : a = b) : Ending.returned (.int .u64 a) = .returned (.int .u64 b) := by rw [h]
/-- what 'above' answers, for lists shorter than f -/
def Aboves (fn : FuncId) (wd : Int) (f : Nat) : Prop := ∀ (l : List (List UInt8)) (n : Nat) (A : Option Addr) (c B : Nat) (w : World), l.length = n → l.length < f → Strs w B A l → B ≤ w.heap.size → l.length ≤ 65536 → Short l → l.length ≤ c → c ≤ maxLen →
  Calls Try.prog fn #[.int .i64 wd, .slice A n c] w fun e w' => e = .returned (.int .u64 (aboveS wd l)) ∧ Below w.heap.size w w'
theorem aboves_all {fn : FuncId} {wd : Int} (h : ∀ f, Aboves fn wd f → Aboves fn wd (f + 1)) : ∀ f, Aboves fn wd f
  | 0 => fun l n A c B w hn hf => absurd hf (by omega)
  | f + 1 => h f (aboves_all h f)
/-- both halves lie there, and nothing older was turned -/
def Halves (w0 : World) (B b off k : Nat) (l : List (List UInt8)) (W : World) : Prop :=
  (Strs W B (some ⟨b, off, none⟩) (l.take k) ∧ Strs W B (some ⟨b, off + k, none⟩) (l.drop k) ∧ B ≤ w0.heap.size) ∧ Below w0.heap.size w0 W
theorem Halves.below {w0 W W' : World} {B b off k : Nat} {l : List (List UInt8)} (h : Halves w0 B b off k l W) (hb : Below W.heap.size W W') : Halves w0 B b off k l W' :=
  ⟨⟨Rd.below h.1.1 (hb.mono (Nat.le_trans h.1.2.2 h.2.size)), Rd.below h.1.2.1 (hb.mono (Nat.le_trans h.1.2.2 h.2.size)), h.1.2.2⟩, h.2.trans (hb.mono h.2.size)⟩
theorem Halves.drew {w0 W : World} {B b off k : Nat} {l : List (List UInt8)} (h : Halves w0 B b off k l W) : Halves w0 B b off k l W.drew := ⟨h.1, h.2.drew⟩
set_option maxRecDepth 100000 in
set_option maxHeartbeats 4000000 in
theorem above_step (wd : Int) (f : Nat) (ih : Aboves 85 wd f) : Aboves 85 wd (f + 1) := by
  intro l n A c B w hn hf h hB hl hsh hc hcm
  subst hn
  have hl' : (l.length : Int) ≤ 65536 := by omega
  rcases Nat.lt_or_ge l.length 2 with h2 | h2
  · rcases l with _ | ⟨s, _ | ⟨s2, r⟩⟩
    · go_enter Try.func85, Try.ntmps85
      go_wp2
      go_ret
      exact ⟨rfl, Below.refl _ _⟩
    · have hl1 : [s].length = 1 := rfl
      obtain ⟨b, off, rfl, _, hc0⟩ := Strs.at_ h (k := 0) (by omega)
      have hc1 : w.cell? ⟨b, off, none⟩ = some (.string (bs s)) := hc0
      go_enter Try.func85, Try.ntmps85
      go_wp2_with fail
      refine (dleaf_any s _).mono ?_
      rintro e w1 ⟨x, rfl, ⟨A', c', rfl, hs', hf'⟩, hb1⟩
      go_wp2_with fail
      refine (ofImage_any wd 0 [s] A' c' _ _ hs' (Nat.le_refl _) (by simp [maxLen]) hsh).mono ?_
      rintro e w2 ⟨rfl, hb2⟩
      go_wp2
      go_ret
      exact ⟨rfl, hb1.trans (hb2.mono hb1.size)⟩
    · simp at h2
      omega
  · have hhb := halfS_bd l.length h2
    obtain ⟨b, off, rfl, _, _⟩ := Strs.at_ h (k := 0) (by omega)
    have g0 : decide ((l.length : Int) = 0) = false := decide_eq_false (by omega)
    have g1 : decide ((l.length : Int) = 1) = false := decide_eq_false (by omega)
    have hS := aboveS_more wd l h2
    have HS := Lib.hid hS
    clear hS
    have hT := Strs.take h (k := halfS l.length) (by omega)
    have hD := Strs.cut_lt h (k := halfS l.length) (by omega)
    have hhm : ((halfS l.length : Nat) : Int) ≤ 65536 := by omega
    have lt : (l.take (halfS l.length)).length = halfS l.length := by rw [List.length_take]; omega
    have ld : (l.drop (halfS l.length)).length = l.length - halfS l.length := by rw [List.length_drop]
    have hsp := half_any l.length
    generalize halfS l.length = k at *
    have upL : ∀ {W : World}, Halves w B b off k l W → Calls Try.prog 85 #[.int .i64 wd, .slice (some ⟨b, off, none⟩) k c] W fun e w' => e = .returned (.int .u64 (aboveS wd (l.take k))) ∧ Below W.heap.size W w' :=
      fun {W} hW => ih (l.take k) k _ c B W lt (by omega) hW.1.1 (Nat.le_trans hW.1.2.2 hW.2.size) (by omega) (Short.take hsh k) (by omega) hcm
    have upR : ∀ {W : World}, Halves w B b off k l W → Calls Try.prog 85 #[.int .i64 wd, .slice (some ⟨b, off + k, none⟩) (l.length - k) (c - k)] W fun e w' => e = .returned (.int .u64 (aboveS wd (l.drop k))) ∧ Below W.heap.size W w' :=
      fun {W} hW => ih (l.drop k) (l.length - k) _ (c - k) B W ld (by omega) hW.1.2.1 (Nat.le_trans hW.1.2.2 hW.2.size) (by omega) (Short.drop hsh k) (by omega) (by omega)
    have hH : Halves w B b off k l w := ⟨⟨hT, hD, hB⟩, Below.refl _ _⟩
    have hx := aboveS_bd wd (l.take k)
    have hy := aboveS_bd wd (l.drop k)
    have i0 : (0 : Int) ≤ (k : Int) := by omega
    have i1 : (k : Int) ≤ (l.length : Int) := by omega
    have i2 : (k : Int) ≤ (c : Int) := by omega
    have i3 : (l.length : Int) ≤ (c : Int) := by omega
    have i4 : (0 : Int) ≤ (l.length : Int) := by omega
    have i5 : ¬ c = k := by omega
    go_enter Try.func85, Try.ntmps85
    go_wp2_with fail
    refine (hsp _ (by omega)).mono ?_
    rintro e w1 ⟨rfl, rfl⟩
    generalize aboveS wd (l.take k) = x at *
    generalize aboveS wd (l.drop k) = y at *
    go_wp2_with fail
    go_region_held3 (Halves w B b off k l) (first | assumption | exact Halves.drew (by assumption) | exact Halves.below (by assumption) (by assumption))
      (first
        | (go_at_call 85
           with_reducible refine (upL (by assumption)).mono ?_
           rintro e w2 ⟨rfl, hb2⟩)
        | (go_at_call 85
           with_reducible refine (upR (by assumption)).mono ?_
           rintro e w2 ⟨rfl, hb2⟩)
        | (go_at_call 146
           refine (dnode_any x y _ hx.1 hx.2 hy.1 hy.2).mono ?_
           rintro e w2 ⟨v, rfl, ⟨A', c', rfl, hs', hf'⟩, hb2⟩)
        | (go_at_call 30
           refine (ofImage_any wd 1 [be x 8, be y 8] _ _ _ _ (by assumption) (Nat.le_refl _) (by simp [maxLen]) (short2 (be8_short x) (be8_short y))).mono ?_
           rintro e w2 ⟨rfl, hb2⟩))
    all_goals
      go_wp2
      go_ret
      first
        | exact ⟨ret_u64 HS.out.symm, (show Halves w B b off k l _ by assumption).2⟩
        | exact ⟨ret_u64 HS.out.symm, (Halves.below (by assumption) (by assumption)).2⟩
theorem above_any (wd : Int) (l : List (List UInt8)) (A : Option Addr) (c B : Nat) (w : World) (h : Strs w B A l) (hB : B ≤ w.heap.size) (hl : l.length ≤ 65536) (hsh : Short l) (hc : l.length ≤ c) (hcm : c ≤ maxLen) :
    Calls Try.prog 85 #[.int .i64 wd, .slice A l.length c] w fun e w' => e = .returned (.int .u64 (aboveS wd l)) ∧ Below w.heap.size w w' :=
  aboves_all (above_step wd) (l.length + 1) l _ A c B w rfl (by omega) h hB hl hsh hc hcm
end Go.Proofs.Ytjmkcndjjfokiaa
