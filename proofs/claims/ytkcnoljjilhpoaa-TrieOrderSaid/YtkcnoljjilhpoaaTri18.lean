/- The laws on trees: grown. -/
import Derived.Test.YtkcnoljjilhpoaaProg
import Derived.Test.YtkcnoljjilhpoaaTri17
import Derived.Deep.RegionHeld3
import Derived.Deep.Cut
import Derived.Deep.CutRange
namespace Go.Proofs.Ytkcnoljjilhpoaa
open Go.RowKit
theorem TrR.far2 {wd : Int} {W : World} {g : Nat} {t0 : TypeId} {cs : Array Value} (hg : Blk W g t0 cs) (hne : 148 ≠ t0) {p : Addr} (hp : p.block = g) (u : Value) : ∀ {t : Tr} {B q : Nat}, TrR wd W B t q → TrR wd (W.setCell p u) B t q
  | .leaf k v, B, q, h => ⟨h.1, h.2.far (fun e => Blk.ne_ h.2 hg hne (e.trans hp)) u⟩
  | .fork _ l r, B, q, h => by
    obtain ⟨h1, a, b, h2, h3, h4⟩ := h
    exact ⟨h1, a, b, h2.far (fun e => Blk.ne_ h2 hg hne (e.trans hp)) u, h3.far2 hg hne hp u, h4.far2 hg hne hp u⟩
theorem OTrR.far2 {wd : Int} {W : World} {g : Nat} {t0 : TypeId} {cs : Array Value} (hg : Blk W g t0 cs) (hne : 148 ≠ t0) {p : Addr} (hp : p.block = g) (u : Value) : ∀ {t : Option Tr} {B : Nat} {a : Option Addr}, OTrR wd W B t a → OTrR wd (W.setCell p u) B t a
  | none, _, _, h => h
  | some _, _, _, ⟨q, e, h⟩ => ⟨q, e, h.far2 hg hne hp u⟩
theorem TrR.drew {wd : Int} {W : World} : ∀ {t : Tr} {B q : Nat}, TrR wd W B t q → TrR wd W.drew B t q
  | .leaf k v, B, q, h => ⟨h.1, h.2.drew⟩
  | .fork _ l r, B, q, h => by
    obtain ⟨h1, a, b, h2, h3, h4⟩ := h
    exact ⟨h1, a, b, h2.drew, h3.drew, h4.drew⟩
theorem OTrR.drew {wd : Int} {W : World} : ∀ {t : Option Tr} {B : Nat} {a : Option Addr}, OTrR wd W B t a → OTrR wd W.drew B t a
  | none, _, _, h => h
  | some _, _, _, ⟨q, e, h⟩ => ⟨q, e, h.drew⟩
theorem own_far {W : World} {base size n g : Nat} {e t : TypeId} {v : Value} {xs : List Value} {cs : Array Value} (h : W.ownsRow base e size v n xs) (hg : Blk W g t cs) (hne : t ≠ e) {p : Addr} (hp : p.block = g) (u : Value) : (W.setCell p u).ownsRow base e size v n xs :=
  h.kept (grown_set W p u) (.inr fun hh => by
    rcases h.2 with ⟨rfl, _⟩ | ⟨g', cap, cur, rfl, _, hgb, _⟩
    · simp [Value.ownBlock] at hh
    · have e' : g' = p.block := by simpa [Value.ownBlock] using hh
      unfold Blk at hg
      rw [← hp, ← e', hgb] at hg
      injection hg with hg
      injection hg with _ ht
      exact hne ht.symm)
/-- may it be put in? -/
def okS (k v : Key) : Bool := decide (k.length ≤ 32) && decide (v.length ≤ 4096)
def erS (k v : Key) : Int := if okS k v then 0 else 3
/-- what Put hands back -/
def PutF (wd : Int) (k v : Key) (t : Option Tr) (x : Int) (a' : Option Addr) (W : World) : Prop :=
  okS k v = true → x = wd ∧ ∃ t', Tr.ook t' ∧ Tr.oitems t' = putL k v (Tr.oitems t) ∧ OTrR wd W W.heap.size t' a'
def RPutF (wd : Int) (k v : Key) (l : List Ent) (x : Int) (u : Value) (W : World) : Prop :=
  okS k v = true → x = wd ∧ ∃ base, W.ownsRow base 46 2 u (putL k v l).length (itemCells (putL k v l))
theorem rputB_any (wd : Int) (k v : Key) (u : Value) (base : Nat) (l : List Ent) (w : World) (hl : w.ownsRow base 46 2 u l.length (itemCells l)) (hlen : l.length ≤ 100000000) :
    Calls Try.prog 30 #[.agg #[.int .i64 wd, u], .string (bs k), .string (bs v)] w fun e w' => ∃ uA un uc x, e = .returned (.tuple #[.agg #[.int .i64 x, .slice uA un uc], .int .i64 (erS k v)]) ∧ RPutF wd k v l x (.slice uA un uc) w' ∧ Below w.heap.size w w' := by
  obtain ⟨A, c, rfl⟩ := own_shape hl
  unfold erS RPutF
  cases hb : okS k v
  · refine (rputLong_any wd k v A l.length c w ?_).mono ?_
    · unfold okS at hb
      simp at hb
      omega
    · rintro e w' ⟨rfl, hb⟩
      exact ⟨_, _, _, _, rfl, fun h => (by cases h), hb⟩
  · have h2 : k.length ≤ 32 ∧ v.length ≤ 4096 := by
      unfold okS at hb
      simpa using hb
    refine (rput_any wd k v A l c w h2.1 h2.2 (Rd.of_own hl) hlen).mono ?_
    rintro e w' ⟨u', rfl, h3, h4⟩
    obtain ⟨uA, uc, rfl⟩ := own_shape h3
    exact ⟨_, _, _, wd, rfl, fun _ => ⟨rfl, _, h3⟩, h4⟩
/-- a tree and the answer's, with the same in both, in two variables -/
def Both (wd : Int) (W : World) (t : Option Tr) (a : Option Addr) (v : Value) : Prop :=
  Tr.ook t ∧ (∀ x, x ∈ Tr.oitems t → x.1.length ≤ 32 ∧ x.2.length ≤ 4096 ∧ x.2 ≠ []) ∧ OTrR wd W W.heap.size t a ∧ ∃ base, W.ownsRow base 46 2 v (Tr.oitems t).length (itemCells (Tr.oitems t))
end Go.Proofs.Ytkcnoljjilhpoaa
