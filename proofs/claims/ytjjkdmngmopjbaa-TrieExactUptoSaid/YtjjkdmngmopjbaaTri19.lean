/- The law TrieOrder: its walk. -/
import Derived.Test.YtjjkdmngmopjbaaProg
import Derived.Test.YtjjkdmngmopjbaaG23
import Derived.Test.YtjjkdmngmopjbaaG19
import Derived.Deep.RegionHeld3
import Derived.Deep.Cut
import Derived.Deep.CutRange
set_option linter.unusedSimpArgs false
set_option linter.unusedVariables false
namespace Go.Proofs.Ytjjkdmngmopjbaa
open Go.RowKit
theorem OTrR.below {wd : Int} {w w' : World} {B : Nat} {t : Option Tr} {a : Option Addr} (h : OTrR wd w B t a) (hb : Below B w w') : OTrR wd w' B t a := by
  cases t with
  | none => exact h
  | some t => obtain ⟨q, e, h⟩ := h; exact ⟨q, e, h.below hb⟩
theorem OTrR.more {wd : Int} {w : World} {B B' : Nat} {t : Option Tr} {a : Option Addr} (h : OTrR wd w B t a) (hb : B ≤ B') : OTrR wd w B' t a := by
  cases t with
  | none => exact h
  | some t => obtain ⟨q, e, h⟩ := h; exact ⟨q, e, h.more hb⟩
/-- each of its keys is a key of L -/
def Among (L : List Ent) (t : Option Tr) : Prop := ∀ x, x ∈ Tr.oitems t → ∃ y, y ∈ L ∧ y.1 = x.1
theorem among_put {L : List Ent} {t t' : Option Tr} {k v : Key} (hok : Tr.ook t) (h : Among L t) (hk : ∃ y, y ∈ L ∧ y.1 = k) (e : Tr.oitems t' = putL k v (Tr.oitems t)) : Among L t' := by
  unfold Among
  rw [e]
  exact putL_all (P := fun x => ∃ y, y ∈ L ∧ y.1 = x.1) (Tr.osorted t hok) (fun _ => hk) h
theorem among_short {L : List Ent} {t : Option Tr} (h : Among L t) (hL : ∀ x, x ∈ L → x.1.length ≤ 32) : ∀ x, x ∈ Tr.oitems t → x.1.length ≤ 32 := fun x hx => by
  obtain ⟨y, hy, e⟩ := h x hx
  rw [← e]
  exact hL y hy
/-- the items from j on are in it -/
def FromJ (L : List Ent) (t : Option Tr) (j : Nat) : Prop := ∀ m (h : m < L.length), j ≤ m → L[m] ∈ Tr.oitems t
theorem sorted_ne {L : List Ent} (hL : L.Pairwise Lt) {i m : Nat} (hi : i < L.length) (hm : m < L.length) (hne : i < m) : L[m].1 ≠ L[i].1 := fun e => by
  have := (List.pairwise_iff_getElem.mp hL) i m hi hm hne
  unfold Lt at this
  rw [e, less_irr] at this
  cases this
theorem fromJ_put {L : List Ent} (hL : L.Pairwise Lt) {t t' : Option Tr} {j : Nat} (hok : Tr.ook t) (h : FromJ L t (j + 1)) (hj : j < L.length) (hv : L[j].2 ≠ []) (e : Tr.oitems t' = putL L[j].1 L[j].2 (Tr.oitems t)) : FromJ L t' j := fun m hm hjm => by
  rw [e, (putL_spec _ _ _ (Tr.osorted t hok)).2]
  rcases Nat.lt_or_ge j m with hlt | hge
  · exact .inr ⟨h m hm hlt, sorted_ne hL hj hm hlt⟩
  · obtain rfl : j = m := by omega
    exact .inl ⟨hv, rfl⟩
theorem same_of {L : List Ent} (hL : L.Pairwise Lt) {t : Option Tr} (hok : Tr.ook t) (ha : Among L t) (hf : FromJ L t 0) : Tr.oitems t = L := by
  have hs := Tr.osorted t hok
  refine sorted_ext hs hL fun x => ⟨fun hx => ?_, fun hx => ?_⟩
  · obtain ⟨y, hy, e⟩ := ha x hx
    obtain ⟨m, hm, rfl⟩ := List.getElem_of_mem hy
    have h2 := hf m hm (Nat.zero_le _)
    have h3 : x = L[m] := by
      obtain ⟨i, hi, rfl⟩ := List.getElem_of_mem hx
      obtain ⟨i', hi', e'⟩ := List.getElem_of_mem h2
      rcases Nat.lt_trichotomy i i' with h | h | h
      · exact absurd (by rw [e', e]) (sorted_ne hs hi hi' h)
      · subst h; exact e'
      · exact absurd (by rw [e', e]) (sorted_ne hs hi' hi h)
    rw [h3]
    exact hy
  · obtain ⟨m, hm, rfl⟩ := List.getElem_of_mem hx
    exact hf m hm (Nat.zero_le _)
theorem root_one {wd : Int} {t u : Option Tr} (ht : Tr.ook t) (hu : Tr.ook u) (e : Tr.oitems t = Tr.oitems u) : rootT wd t = rootT wd u := by
  cases t with
  | none =>
    cases u with
    | none => rfl
    | some u => exact absurd e.symm u.items_ne
  | some t =>
    cases u with
    | none => exact absurd e t.items_ne
    | some u => rw [Tr.unique t u ht hu e]
theorem someL_all (L : List Ent) : someL [] (-1) L = L := by
  unfold someL preL
  rw [if_pos (by omega)]
  exact List.filter_eq_self.mpr fun _ _ => rfl
end Go.Proofs.Ytjjkdmngmopjbaa
