/- Of the texts Hold2. -/
import Derived.Test.YtjjkdmngmopjbaaProg
import Derived.Test.YtjjkdmngmopjbaaG10
namespace Go.Proofs.Ytjjkdmngmopjbaa
open Go.RowKit
abbrev ImgP := Int × List (List UInt8)
def pairS (r : Bool) (s d : Int) : List (List UInt8) := if r then [be s 8, be d 8] else [be d 8, be s 8]
/-- the images of the nodes on the way up, from below -/
def clims (w d : Int) : List Bool → List Int → List ImgP
  | r :: rs, s :: ss => clims w d rs ss ++ [(1, pairS r s (climb w d rs ss))]
  | _, _ => []
def imgsS (w : Int) (s : List UInt8) (n : Int) (ways : List Bool) (ds : List Int) : List ImgP :=
  ((0, [s]) :: clims w (ofS w 0 [s]) ways ds) ++ [(2, [be n 5, be (climb w (ofS w 0 [s]) ways ds) 8])]
theorem climb_step (w d : Int) (ways : List Bool) (ds : List Int) (j : Nat) (h1 : j < ways.length) (h2 : j < ds.length) :
    climb w d (ways.drop j) (ds.drop j) = ofS w 1 (pairS ways[j] ds[j] (climb w d (ways.drop (j + 1)) (ds.drop (j + 1)))) := by
  rw [List.drop_eq_getElem_cons h1, List.drop_eq_getElem_cons h2, climb]
  unfold pairS
  split <;> rfl
theorem clims_step (w d : Int) (ways : List Bool) (ds : List Int) (j : Nat) (h1 : j < ways.length) (h2 : j < ds.length) :
    clims w d (ways.drop j) (ds.drop j) = clims w d (ways.drop (j + 1)) (ds.drop (j + 1)) ++ [(1, pairS ways[j] ds[j] (climb w d (ways.drop (j + 1)) (ds.drop (j + 1))))] := by
  rw [List.drop_eq_getElem_cons h1, List.drop_eq_getElem_cons h2, clims]
theorem clims_len (w d : Int) : ∀ (ways : List Bool) (ds : List Int), (clims w d ways ds).length ≤ ways.length
  | [], ds => by simp [clims]
  | r :: rs, [] => by simp [clims]
  | r :: rs, s :: ss => by
    have := clims_len w d rs ss
    simp [clims]
    exact this
theorem climb_bd (w d : Int) (hd : 0 ≤ d ∧ d < 18446744073709551616) : ∀ (ways : List Bool) (ds : List Int), 0 ≤ climb w d ways ds ∧ climb w d ways ds < 18446744073709551616
  | [], ds => by simpa [climb] using hd
  | r :: rs, [] => by simpa [climb] using hd
  | r :: rs, s :: ss => by
    rw [climb]
    split
    · have := ofS_bd w 1 [be s 8, be (climb w d rs ss) 8]; omega
    · have := ofS_bd w 1 [be (climb w d rs ss) 8, be s 8]; omega
theorem pairS_len (r : Bool) (s d : Int) : (pairS r s d).length = 2 := by unfold pairS; split <;> rfl
theorem pairS_short (r : Bool) (s d : Int) : Short (pairS r s d) := by
  intro p hp
  unfold pairS at hp
  split at hp <;> (simp at hp; rcases hp with rfl | rfl <;> exact be8_short _)
/-- a list of images as it lies: two cells each, the parts apart from the row -/
def Imgs (base : Nat) (w : World) (row : Option Nat) : List Value → List ImgP → Prop
  | t :: v :: xs, im :: r => t = .int .i64 im.1 ∧ (∃ A c, v = .slice A im.2.length c ∧ Strs w w.heap.size A im.2 ∧ From base A ∧ (0 < im.2.length → ∀ b off, A = some ⟨b, off, none⟩ → some b ≠ row)) ∧ Imgs base w row xs r
  | [], [] => True
  | _, _ => False
theorem Strs.stays {w w' : World} {A : Option Addr} {ps : List (List UInt8)} {row : Option Nat} (h : Strs w w.heap.size A ps) (hg : w.grownBy w' row) (hne : 0 < ps.length → ∀ b off, A = some ⟨b, off, none⟩ → some b ≠ row) : Strs w' w'.heap.size A ps := by
  refine ⟨h.1, fun hn => ?_⟩
  obtain ⟨b, off, rfl, hb, hc⟩ := h.2 hn
  have hsz := hg.size
  exact ⟨b, off, rfl, by omega, fun j u hu => hg.cell (hc j u hu) (hne hn b off rfl)⟩
theorem Imgs.step {base : Nat} {w w' : World} {row row' : Option Nat} (hg : w.grownBy w' row) (hr : row' = row ∨ row' = some w.heap.size) : ∀ {xs : List Value} {r : List ImgP}, Imgs base w row xs r → Imgs base w' row' xs r
  | [], [], _ => trivial
  | t :: v :: xs, im :: r, h => by
    obtain ⟨ht, ⟨A, c, hv, hs, hf, hne⟩, hrest⟩ := h
    refine ⟨ht, ⟨A, c, hv, hs.stays hg hne, hf, fun hn b off e => ?_⟩, Imgs.step hg hr hrest⟩
    rcases hr with rfl | rfl
    · exact hne hn b off e
    · intro hbe
      simp only [Option.some.injEq] at hbe
      subst hbe
      subst e
      obtain ⟨b', off', e', hb', _⟩ := hs.2 hn
      simp only [Option.some.injEq, Addr.mk.injEq, and_true] at e'
      omega
  | [], _ :: _, h => h.elim
  | [_], [], h => h.elim
  | [_], _ :: _, h => h.elim
  | _ :: _ :: _, [], h => h.elim
theorem Below.grownNone {w w' : World} (h : Below w.heap.size w w') (row : Option Nat) : w.grownBy w' row := ⟨h.os, h.tape, h.output, h.size, fun k hk _ => h.block k hk⟩
theorem Imgs.below {base : Nat} {w w' : World} {row : Option Nat} {xs : List Value} {r : List ImgP} (h : Imgs base w row xs r) (hb : Below w.heap.size w w') : Imgs base w' row xs r := h.step (Below.grownNone hb row) (.inl rfl)
theorem Imgs.snoc {base : Nat} {w : World} {row : Option Nat} {t v : Value} {im : ImgP} (ht : t = .int .i64 im.1) (hv : ∃ A c, v = .slice A im.2.length c ∧ Strs w w.heap.size A im.2 ∧ From base A ∧ (0 < im.2.length → ∀ b off, A = some ⟨b, off, none⟩ → some b ≠ row)) : ∀ {xs : List Value} {r : List ImgP}, Imgs base w row xs r → Imgs base w row (xs ++ [t, v]) (r ++ [im])
  | [], [], _ => ⟨ht, hv, trivial⟩
  | _ :: _ :: _, _ :: _, h => ⟨h.1, h.2.1, Imgs.snoc ht hv h.2.2⟩
  | [], _ :: _, h => h.elim
  | [_], [], h => h.elim
  | [_], _ :: _, h => h.elim
  | _ :: _ :: _, [], h => h.elim
theorem Imgs.len {base : Nat} {w : World} {row : Option Nat} : ∀ {xs : List Value} {r : List ImgP}, Imgs base w row xs r → xs.length = 2 * r.length
  | [], [], _ => rfl
  | _ :: _ :: _, _ :: _, h => by have := Imgs.len h.2.2; simp; omega
  | [], _ :: _, h => h.elim
  | [_], [], h => h.elim
  | [_], _ :: _, h => h.elim
  | _ :: _ :: _, [], h => h.elim
theorem Imgs.at_ {base : Nat} {w : World} {row : Option Nat} : ∀ {xs : List Value} {r : List ImgP} (k : Nat), Imgs base w row xs r → (hk : k < r.length) → ∃ A c, xs[k * 2]? = some (.int .i64 r[k].1) ∧ xs[k * 2 + 1]? = some (.slice A r[k].2.length c) ∧ Strs w w.heap.size A r[k].2 ∧ From base A
  | [], [], k, _, hk => absurd hk (by simp)
  | t :: v :: _, _ :: _, 0, h, _ => by
    obtain ⟨ht, ⟨A, c, hv, hs, hf, _⟩, _⟩ := h
    exact ⟨A, c, by simp [ht], by simp [hv], hs, hf⟩
  | _ :: _ :: xs, _ :: r, k + 1, h, hk => by
    obtain ⟨A, c, h1, h2, h3, h4⟩ := Imgs.at_ k h.2.2 (by simpa using hk)
    refine ⟨A, c, ?_, ?_, h3, h4⟩
    · rw [show (k + 1) * 2 = k * 2 + 1 + 1 by omega]; simpa using h1
    · rw [show (k + 1) * 2 + 1 = k * 2 + 1 + 1 + 1 by omega]; simpa using h2
  | [], _ :: _, _, h, _ => h.elim
  | [_], [], _, h, _ => h.elim
  | [_], _ :: _, _, h, _ => h.elim
  | _ :: _ :: _, [], _, h, _ => h.elim
/-- an image that was just made, as it lies in a row of an older block -/
theorem IsImg.entry {base B : Nat} {w : World} {row : Option Nat} {A : Option Addr} {c : Nat} {ps : List (List UInt8)} (hs : Strs w w.heap.size A ps) (hf : From B A) (hb : base ≤ B) (hr : ∀ g, row = some g → g < B) :
    ∃ A' c', Value.slice A ps.length c = .slice A' ps.length c' ∧ Strs w w.heap.size A' ps ∧ From base A' ∧ (0 < ps.length → ∀ b off, A' = some ⟨b, off, none⟩ → some b ≠ row) :=
  ⟨A, c, rfl, hs, fun b off e => Nat.le_trans hb (hf b off e), fun _ b off e hbe => by
    have h1 := hf b off e
    have h2 := hr b hbe.symm
    omega⟩
theorem Imgs.last {base B : Nat} {w : World} {v : Value} {e : TypeId} {m : Nat} {xs : List Value} {pre : List ImgP} {tag : Int} {ps : List (List UInt8)} (hown : w.ownsRow B e 2 v m xs) (hm : m = pre.length + 1) (h : Imgs base w v.ownBlock xs (pre ++ [(tag, ps)])) :
    ∃ b off cap A c, v = .slice (some ⟨b, off, none⟩) m cap ∧ m ≤ cap ∧ cap ≤ maxLen ∧ w.cell? ⟨b, off + (m - 1) * 2, none⟩ = some (.int .i64 tag) ∧ w.cell? ⟨b, off + (m - 1) * 2 + 1, none⟩ = some (.slice A ps.length c) ∧ Strs w w.heap.size A ps := by
  obtain ⟨A, c, h1, h2, h3, _⟩ := Imgs.at_ pre.length h (by simp)
  simp only [List.getElem_append_right (Nat.le_refl _), Nat.sub_self, List.getElem_cons_zero] at h1 h2 h3
  rcases hown.2 with ⟨_, h0⟩ | ⟨g, cap, cur, rfl, hg, hh, hc, hcm, _⟩
  · omega
  · have hcl := hown.cells (g := g) rfl
    have hadd : ∀ j, (⟨g, 0, none⟩ : Addr).add j = ⟨g, 0 + j, none⟩ := fun j => by unfold Addr.add; split <;> simp_all
    have e : m - 1 = pre.length := by omega
    refine ⟨g, 0, cap, A, c, rfl, hc, hcm, ?_, ?_, h3⟩
    · rw [e, ← hadd]; exact hcl _ _ h1
    · rw [e, Nat.add_assoc, ← hadd]; exact hcl _ _ h2
theorem boos_at {w : World} {B : Nat} {A : Option Addr} {l : List Bool} (h : Rd w B 1 A l.length (boos l)) {k : Nat} (hk : k < l.length) : ∃ b off, A = some ⟨b, off, none⟩ ∧ b < B ∧ w.cell? ⟨b, off + k, none⟩ = some (.bool l[k]) := by
  obtain ⟨b, off, u, rfl, hb, hx, hc⟩ := Rd.at_ (j := 0) h hk (by omega)
  simp [boos, List.getElem?_eq_getElem hk] at hx
  subst hx
  exact ⟨b, off, rfl, hb, by simpa using hc⟩
theorem imgInfo : (Try.prog.info? 106).map (fun i => (i.zero, i.size, i.bytes)) = some (some (.agg #[.int .i64 0, .slice none 0 0]), 2, 32) := by kernel_rfl
theorem Imgs.weak {base base' : Nat} {w : World} {row : Option Nat} (hb : base' ≤ base) : ∀ {xs : List Value} {r : List ImgP}, Imgs base w row xs r → Imgs base' w row xs r
  | [], [], _ => trivial
  | _ :: _ :: _, _ :: _, h => ⟨h.1, by obtain ⟨A, c, h1, h2, h3, h4⟩ := h.2.1; exact ⟨A, c, h1, h2, fun b off e => Nat.le_trans hb (h3 b off e), h4⟩, Imgs.weak hb h.2.2⟩
  | [], _ :: _, h => h.elim
  | [_], [], h => h.elim
  | [_], _ :: _, h => h.elim
  | _ :: _ :: _, [], h => h.elim
theorem clims_full (w d : Int) : ∀ (ways : List Bool) (ds : List Int), ways.length = ds.length → (clims w d ways ds).length = ds.length
  | [], [], _ => rfl
  | _ :: rs, _ :: ss, h => by
    have := clims_full w d rs ss (by simpa using h)
    simp [clims, this]
end Go.Proofs.Ytjjkdmngmopjbaa
