/- Of the texts RecS, Box. -/
import Derived.Test.YtjhaafbbdgjagaaGreatProg
import Derived.Test.YtjhaafbbdgjagaaGreatG01
import Derived.Deep.MidRow
import Derived.Deep.RegionHeld
set_option linter.unusedSimpArgs false
set_option linter.unusedVariables false
namespace Go.Proofs.YtjhaafbbdgjagaaGreat
open Go.RowKit
theorem gen_world {P : World → Prop} (W : World) (F : World → Prop) (hF : F W) (h : ∀ W', F W' → P W') : P W := h W hF
theorem below_setCells {B b : Nat} {a : World} (hb : B ≤ b) : ∀ (vs : List Value) (o : Nat) (w : World), Below B a w → Below B a (w.setCells b o vs)
 | [], _, _, h => h
 | v :: r, o, w, h => below_setCells hb r (o + 1) _ (h.setCell hb v)
theorem Blk.beside {g : Nat} {t : TypeId} {cs : Array Value} {b : Nat} (hg : g ≠ b) : ∀ (vs : List Value) (o : Nat) (w : World), Blk w g t cs → Blk (w.setCells b o vs) g t cs
 | [], _, _, h => h
 | v :: r, o, w, h => Blk.beside hg r (o + 1) _ (h.far hg v)
theorem Blk.sized {b : Nat} {t : TypeId} : ∀ (vs : List Value) (o : Nat) (w : World) (cs : Array Value), Blk w b t cs → ∃ cs', Blk (w.setCells b o vs) b t cs' ∧ cs'.size = cs.size
 | [], _, _, cs, h => ⟨cs, h, rfl⟩
 | v :: r, o, w, cs, h => by
  obtain ⟨c', h1, h2⟩ := Blk.sized r (o + 1) _ _ (h.set_ o v); exact ⟨c', h1, by simpa using h2⟩
theorem Blk.whole {w : World} {b : Nat} {t : TypeId} {cs cs' : Array Value} (h : Blk w b t cs) (hs : cs'.size = cs.size) : Blk (w.setCells b 0 cs'.toList) b t cs' := by
 obtain ⟨d, hd, hn⟩ := Blk.sized cs'.toList 0 w cs h; have hj : ∀ j, j < cs'.toList.length → (w.cell? ⟨b, 0 + j, none⟩).isSome = true := by
  intro j hj; rw [h.cell (0 + j), Array.getElem?_eq_getElem (by simp at hj; omega)]; rfl
 have he : d = cs' := by
  apply Array.ext (by omega); intro i h1 h2; have a := hd.cell i; have c := World.cell?_setCells_in b cs'.toList 0 w hj i (by simpa using h2); rw [Nat.zero_add] at c; rw [c, Array.getElem?_eq_getElem h1] at a; simpa using (Option.some.inj a).symm
 exact he ▸ hd
theorem Blk.there {w : World} {b : Nat} {t : TypeId} {cs : Array Value} (h : Blk w b t cs) {n : Nat} (hn : n = cs.size) : w.there b 0 n := by
 intro j hj; rw [Nat.zero_add]; exact ⟨by rw [h.cell j, Array.getElem?_eq_getElem (by omega)]; rfl, h.frozen j⟩
variable {P : Program}
end Go.Proofs.YtjhaafbbdgjagaaGreat
