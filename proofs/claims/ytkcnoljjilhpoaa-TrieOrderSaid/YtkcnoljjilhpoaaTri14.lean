/- Tries in memory, by package trie: what from hands back, as a range over a function wants it. -/
import Derived.Test.YtkcnoljjilhpoaaProg
import Derived.Test.YtkcnoljjilhpoaaTri13
namespace Go.Proofs.Ytkcnoljjilhpoaa
open Go.RowKit Go.Shelf
/-- a leaf that stands there -/
abbrev LfT (wd : Int) (w : World) (B : Nat) := { x : Nat × Ent // TrR wd w B (.leaf x.2.1 x.2.2) x.1 }
def encL {wd : Int} {w : World} {B : Nat} (x : LfT wd w B) : Array Value := #[.pointer (some ⟨x.1.1, 0, none⟩)]
def entsOf {wd : Int} {w : World} {B : Nat} (l : List (LfT wd w B)) : List Ent := l.map fun x => x.1.2
theorem grown_drewN (W : World) (d : Nat) : W.grownBy (W.drewN d) none := ⟨rfl, rfl, rfl, Nat.le_refl _, fun _ _ _ => rfl⟩
theorem KeepT.of_below {w W : World} (h : Below w.heap.size w W) : KeepT w W := fun _ _ _ _ _ hb => hb.below h hb.lt
theorem from_stops (wd : Int) (k : Key) (t : Option Tr) (top : Option Addr) (n Bt Bp B : Nat) (w : World) (hk : k.length ≤ 1000000000) (hlow : ∀ u, t = some u → lowT u) (hok : Tr.ook t)
    (hBt : Blk w Bt 37 #[.int .i64 wd, .pointer top]) (hBp : Blk w Bp 9 #[.string (bs k)]) (ht : OTrR wd w B t top) :
    SeqStopsK Fence.wide n Try.prog 145 #[.pointer (some ⟨Bt, 0, none⟩), .pointer (some ⟨Bp, 0, none⟩)] (encL (wd := wd) (w := w) (B := B)) KeepT (fun xs => entsOf xs = preL k (Tr.oitems t)) (fun pre => entsOf pre <+: preL k (Tr.oitems t)) (preL k (Tr.oitems t)).length w := by
  intro l J Jx W hW hJ hJx hY h0
  have hkw : KeepT w W := KeepT.of_below hW
  have hJd : ∀ (es : List Ent) W1 d, (∃ pre : List (LfT wd w B), entsOf pre = es ∧ J pre W1) → (∃ pre : List (LfT wd w B), entsOf pre = es ∧ J pre (W1.drewN d)) := fun es W1 d ⟨pre, he, hj⟩ => ⟨pre, he, hJ pre W1 _ none hj (grown_drewN _ _) (fun r e => by cases e)⟩
  have hJa : ∀ (es : List Ent) W1 o, (∃ pre : List (LfT wd w B), entsOf pre = es ∧ J pre W1) → (∃ pre : List (LfT wd w B), entsOf pre = es ∧ J pre (W1.alloc o)) := fun es W1 o ⟨pre, he, hj⟩ => ⟨pre, he, hJ pre W1 _ none hj (World.grownBy_alloc W1 o none) (fun r e => by cases e)⟩
  have hY2 : ∀ m (es : List Ent) (q : Nat) (x : Ent) W1, TrR wd w B (.leaf x.1 x.2) q → (∃ pre : List (LfT wd w B), entsOf pre = es ∧ J pre W1) → KeepT w W1 → es.length < (preL k (Tr.oitems t)).length → YieldAt Fence.wide m Try.prog l #[.pointer (some ⟨q, 0, none⟩)] W1 fun e W' =>
      (e = .returned (.bool true) ∧ (∃ pre : List (LfT wd w B), entsOf pre = es ++ [x] ∧ J pre W') ∧ KeepT W1 W') ∨ (e = .returned (.bool false) ∧ (∃ pre : List (LfT wd w B), entsOf pre = es ++ [x] ∧ Jx pre W')) := by
    rintro m es q x W1 hl ⟨pre, rfl, hj⟩ _ hlt
    refine yieldAt_any rfl m (YieldAt.mono (hY pre ⟨(q, x), hl⟩ W1 hj (by simpa [entsOf] using hlt)) fun e W' h => ?_)
    rcases h with ⟨he, h1, h2⟩ | ⟨he, h1⟩
    · exact .inl ⟨he, ⟨_, by simp [entsOf], h1⟩, h2⟩
    · exact .inr ⟨he, ⟨_, by simp [entsOf], h1⟩⟩
  have hBt' := hkw _ _ _ (by decide) (by decide) hBt
  have hBp' := hkw _ _ _ (by decide) (by decide) hBp
  refine callsIn_wide.2 (Calls.mono (R := FromR (fun es W1 => ∃ pre : List (LfT wd w B), entsOf pre = es ∧ J pre W1) (fun es W1 => ∃ pre : List (LfT wd w B), entsOf pre = es ∧ Jx pre W1) (preL k (Tr.oitems t))) ?_ ?_)
  · cases t with
    | none =>
      obtain rfl : top = none := ht
      exact from1No_any wd k l Bt Bp _ _ hk hJd hJa W hBt' ⟨[], rfl, h0⟩
    | some t =>
      obtain ⟨q, rfl, hq⟩ := ht
      exact from1_any wd k t q l Bt Bp B _ w _ _ hk (hlow t rfl) hok hJd hJa hY2 W hq hkw (Nat.le_refl _) hBt' hBp' ⟨[], rfl, h0⟩
  · rintro e W' ⟨hv, ⟨pre, he, hj⟩ | ⟨p, hp, pre, he, hx⟩⟩
    · exact ⟨hv, .inl ⟨pre, he, hj⟩⟩
    · exact ⟨hv, .inr ⟨pre, by show entsOf pre <+: _; rw [he]; exact hp, hx⟩⟩
set_option maxRecDepth 100000 in
theorem from_any (wd : Int) (k : Key) (top : Option Addr) (w : World) :
    Calls Try.prog 91 #[treeV wd top, .string (bs k)] w fun e w' => e = .returned (.func (.func 145) #[] #[.pointer (some ⟨w.heap.size, 0, none⟩), .pointer (some ⟨w.heap.size + 1, 0, none⟩)]) ∧ w' = (w.alloc (.cells #[.int .i64 wd, .pointer top] 37)).alloc (.cells #[.string (bs k)] 9) := by
  have hmf : ∀ (fn : Fn) (first cap : Array Value) (w : World), (Instr.makeFunc fn first cap).run Try.prog w = .ok (.func fn first cap) w := fun _ _ _ _ => rfl
  unfold treeV
  go_enter Try.func91, Try.ntmps91
  go_wp2_with fail
  go_ret
  exact ⟨rfl, rfl⟩
end Go.Proofs.Ytkcnoljjilhpoaa
