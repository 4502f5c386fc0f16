/- Of the texts Gp1, Pk0. -/
import Derived.Test.YtjhaafbbdgjagaaGreatG15
import Derived.Test.YtjhaafbbdgjagaaGreatProg
set_option linter.unusedSimpArgs false
set_option linter.unusedVariables false
namespace Go.Proofs.YtjhaafbbdgjagaaGreat
open Go.RowKit Vc
structure Rdr (D : Type) where
 us : D → List U
 cells : D → List Value
 strip : D → D
 held : World → D → Prop
 p : ByteArray → Got D
def pRep {α : Type} (p : ByteArray → Got α) : Nat → ByteArray → Got (List α)
 | 0, s => .ok ([], s)
 | k + 1, s => match p s with
  | .error e => .error e
  | .ok (x, s1) => match pRep p k s1 with
   | .error e => .error e
   | .ok (l, s2) => .ok (x :: l, s2)
def pList {α : Type} (most : Int) (p : ByteArray → Got α) (s : ByteArray) : Got (List α) :=
 match pUpTo most s with
 | .error e => .error e
 | .ok (n, s1) => pRep p n.toNat s1
theorem pRep_snoc {α : Type} {p : ByteArray → Got α} : ∀ {k : Nat} {s s1 s2 : ByteArray} {l : List α} {x : α}, pRep p k s = .ok (l, s1) → p s1 = .ok (x, s2) → pRep p (k + 1) s = .ok (l ++ [x], s2)
 | 0, s, s1, s2, l, x, h, h2 => by
  simp only [pRep, Except.ok.injEq, Prod.mk.injEq] at h; obtain ⟨rfl, rfl⟩ := h; simp [pRep, h2]
 | k + 1, s, s1, s2, l, x, h, h2 => by
  unfold pRep at h ⊢
  split at h
  ·cases h
  ·next y t hp =>
   split at h
   ·cases h
   ·next l' t' hr =>
    simp only [Except.ok.injEq, Prod.mk.injEq] at h; obtain ⟨rfl, rfl⟩ := h; rw [pRep_snoc hr h2]; rfl
theorem pRep_err {α : Type} {p : ByteArray → Got α} : ∀ {k n : Nat} {s s1 : ByteArray} {l : List α} {e : Int}, pRep p k s = .ok (l, s1) → p s1 = .error e → k < n → pRep p n s = .error e
 | _, 0, _, _, _, _, _, _, h => absurd h (Nat.not_lt_zero _)
 | 0, n + 1, s, s1, l, e, h, h2, _ => by
  simp only [pRep, Except.ok.injEq, Prod.mk.injEq] at h; obtain ⟨rfl, rfl⟩ := h; simp [pRep, h2]
 | k + 1, n + 1, s, s1, l, e, h, h2, hk => by
  unfold pRep at h ⊢
  split at h
  ·cases h
  ·next y t hp =>
   split at h
   ·cases h
   ·next l' t' hr =>
    simp only [Except.ok.injEq, Prod.mk.injEq] at h; obtain ⟨rfl, rfl⟩ := h; rw [pRep_err hr h2 (Nat.lt_of_succ_lt_succ hk)]
theorem pRep_len {α : Type} {p : ByteArray → Got α} : ∀ {k : Nat} {s s1 : ByteArray} {l : List α}, pRep p k s = .ok (l, s1) → l.length = k
 | 0, s, s1, l, h => by
  simp only [pRep, Except.ok.injEq, Prod.mk.injEq] at h; obtain ⟨rfl, rfl⟩ := h; rfl
 | k + 1, s, s1, l, h => by
  unfold pRep at h; split at h
  ·cases h
  ·split at h
   ·cases h
   ·next l' t' hr =>
    simp only [Except.ok.injEq, Prod.mk.injEq] at h; obtain ⟨rfl, rfl⟩ := h; rw [List.length_cons, pRep_len hr]
theorem pUpTo_spec {most : Int} {s r : ByteArray} {n : Int} (h : pUpTo most s = .ok (n, r)) (hs : Small s) : 0 ≤ n ∧ n ≤ most ∧ Small r := by
 unfold pUpTo at h; split at h
 ·cases h
 ·next k s1 h1 =>
  split at h
  ·cases h
  ·split at h
   ·cases h
   ·next b s2 h2 =>
    split at h
    ·cases h
    ·split at h
     ·cases h
     ·next hm =>
      simp only [Except.ok.injEq, Prod.mk.injEq] at h; obtain ⟨rfl, rfl⟩ := h; have a1 := pTake_small h1 hs (by decide); have a2 := pTake_small h2 a1.2.1 (by omega); exact ⟨by omega, by omega, a2.2.1⟩
def elemC {D : Type} (R : Rdr D) : Ctr where
 pre us _ := smP us
 post us os := match us with
  | [.p _, .s s] => ∃ y s', R.p s = .ok (y, s') ∧ os.getLast? = some (.s s')
  | _ => False
 fact us os w := match us with
  | [.p _, .s s] => ∃ x s', os = R.us x ++ [.s s'] ∧ R.p s = .ok (R.strip x, s') ∧ R.held w x
  | _ => False
 pan us ch := match us with
  | [.p _, .s s] => ∃ e, R.p s = .error e ∧ ch = stopCh e
  | _ => False
def listC {D : Type} (R : Rdr D) (fg size : Nat) : Ctr where
 pre us _ := match us with
  | [.p _, .i most, .v g, .s s] => Small s ∧ g = .func (.func fg) #[] #[] ∧ most ≤ 1000000
  | _ => False
 post us os := match us with
  | [.p _, .i most, .v _, .s s] => match os with
   | [.p _, .n m, .n _, .s s'] => ∃ l, pList most R.p s = .ok (l, s') ∧ l.length = m
   | _ => False
  | _ => False
 fact us os w := match us with
  | [.p _, .i most, .v _, .s s] => match os with
   | [.p A, .n m, .n _, .s s'] => ∃ l : List D, pList most R.p s = .ok (l.map R.strip, s') ∧ m = l.length ∧ Rd w w.heap.size size A m (l.flatMap R.cells) ∧ ∀ x ∈ l, R.held w x
   | _ => False
  | _ => False
 pan us ch := match us with
  | [.p _, .i most, .v _, .s s] => ∃ e, pList most R.p s = .error e ∧ ch = stopCh e
  | _ => False
def listInv {D : Type} (R : Rdr D) : Inv where
 inv us := match us with
  | [.n m, .l _, .i k, .s sk, .i n, .s s1] => 0 ≤ k ∧ (m : Int) = k ∧ k ≤ n ∧ n ≤ 1000000 ∧ Small sk ∧ ∃ l, pRep R.p k.toNat s1 = .ok (l, sk)
  | _ => False
 fact us w := match us with
  | [.n _, .l xs, .i k, .s sk, .i _, .s s1] => ∃ l : List D, pRep R.p k.toNat s1 = .ok (l.map R.strip, sk) ∧ xs = l.flatMap R.cells ∧ ∀ x ∈ l, R.held w x
  | _ => False
 mea us := match us with
  | [.n _, .l _, .i k, .s _, .i n, .s _] => (n - k).toNat
  | _ => 0
theorem Rd.of_row {w : World} {base e size n c : Nat} {A : Option Addr} {xs : List Value} (h : w.ownsRow base e size (.slice A n c) n xs) : Rd w w.heap.size size A n xs := by
 refine ⟨h.1, fun hn => ?_⟩
 rcases h.2 with ⟨e1, e2⟩ | ⟨g, cap, cur, e1, hb, hg, hnc, _, hcs, ht⟩
 ·omega
 ·injection e1 with e1 _ _
  refine ⟨g, 0, e1, lt_of_some hg, fun j u hu => ?_⟩; have := World.ownsRow.cells (g := g) h (by rw [e1]; rfl) j u hu; rw [add_plain] at this; exact this
theorem list_step {D : Type} {R : Rdr D} {k : Int} {s1 sk s' : ByteArray} {xs : List Value} {w : World} {x : D} (h0 : 0 ≤ k) (h : ∃ l : List D, pRep R.p k.toNat s1 = .ok (l.map R.strip, sk) ∧ xs = l.flatMap R.cells ∧ ∀ x ∈ l, R.held w x) (hp : R.p sk = .ok (R.strip x, s')) (hh : R.held w x) : ∃ l : List D, pRep R.p (k + 1).toNat s1 = .ok (l.map R.strip, s') ∧ xs ++ R.cells x = l.flatMap R.cells ∧ ∀ x ∈ l, R.held w x := by
 obtain ⟨l, h1, h2, h3⟩ := h; refine ⟨l ++ [x], ?_, ?_, ?_⟩
 ·rw [show (k + 1).toNat = k.toNat + 1 by omega, List.map_append, List.map_cons, List.map_nil]; exact pRep_snoc h1 hp
 ·rw [h2]; simp
 ·intro y hy
  rcases List.mem_append.1 hy with hy | hy
  ·exact h3 y hy
  ·have : y = x := by simpa using hy
   rw [this]; exact hh
theorem gI_ok {P : Got Int} {x : Int} {s : ByteArray} (h : gI P = .ok [.i x, .s s]) : P = .ok (x, s) := by
 cases P with
 | error e => simp [gI, Except.map] at h
 | ok r => obtain ⟨a, b⟩ := r; simpa [gI, Except.map] using h
theorem gI_err {P : Got Int} {e : Int} (h : gI P = .error e) : P = .error e := by
 cases P with
 | error e' => simpa [gI, Except.map] using h
 | ok r => simp [gI, Except.map] at h
section
variable {D : Type} {R : Rdr D} {fg size : Nat} {a A : Option Addr} {most n k : Int} {s s1 sk s' : ByteArray} {e : Int} {xs : List Value} {m c : Nat}
theorem list_pan1 (h : pUpTo most s = .error e) (g : Value) : (listC R fg size).pan [.p a, .i most, .v g, .s s] (stopCh e) := ⟨e, by unfold pList; rw [h], rfl⟩
theorem list_init (h : pUpTo most s = .ok (n, s1)) (hs : Small s) (hm : most ≤ 1000000) : (listInv R).inv [.n 0, .l [], .i 0, .s s1, .i n, .s s1] ∧ ∀ w, (listInv R).fact [.n 0, .l [], .i 0, .s s1, .i n, .s s1] w := by
 obtain ⟨h0, h1, h2⟩ := pUpTo_spec h hs; exact ⟨⟨by decide, rfl, h0, by omega, h2, [], rfl⟩, fun w => ⟨[], rfl, rfl, by simp⟩⟩
theorem list_pan2 (h : pUpTo most s = .ok (n, s1)) (hi : (listInv R).inv [.n m, .l xs, .i k, .s sk, .i n, .s s1]) (hk : k < n) (he : R.p sk = .error e) (g : Value) : (listC R fg size).pan [.p a, .i most, .v g, .s s] (stopCh e) := by
 obtain ⟨i0, i1, i2, i3, i4, l, i5⟩ := hi; exact ⟨e, by unfold pList; rw [h]; exact pRep_err i5 he (by omega), rfl⟩
theorem list_next {y : D} (hi : (listInv R).inv [.n m, .l xs, .i k, .s sk, .i n, .s s1]) (hk : k < n) (hp : R.p sk = .ok (y, s')) (hs : Small s') (b : Nat) (hb : b ≤ 100000) (ys : List Value) : ((m + 1 : Nat) : Int) ≤ 9223372036854775807 ∧ (((m + 1) * b : Nat) : Int) ≤ 140737488355328 ∧ (-9223372036854775808 ≤ k + 1 ∧ k + 1 ≤ 9223372036854775807) ∧ (listInv R).inv [.n (m + 1), .l ys, .i (k + 1), .s s', .i n, .s s1] ∧ ∀ zs, (listInv R).mea [.n (m + 1), .l ys, .i (k + 1), .s s', .i n, .s s1] < (listInv R).mea [.n m, .l zs, .i k, .s sk, .i n, .s s1] := by
 obtain ⟨i0, i1, i2, i3, i4, l, i5⟩ := hi; have hm : m + 1 ≤ 1000001 := by omega
 have := Nat.mul_le_mul hm hb; refine ⟨by omega, by omega, ⟨by omega, by omega⟩, ⟨by omega, by omega, by omega, i3, hs, l ++ [y], ?_⟩, fun zs => ?_⟩
 ·rw [show (k + 1).toNat = k.toNat + 1 by omega]; exact pRep_snoc i5 hp
 ·show (n - (k + 1)).toNat < (n - k).toNat; omega
theorem list_fin (h : pUpTo most s = .ok (n, s1)) (hi : (listInv R).inv [.n m, .l xs, .i k, .s sk, .i n, .s s1]) (hk : ¬ k < n) (g : Value) : (listC R fg size).post [.p a, .i most, .v g, .s s] [.p A, .n m, .n c, .s sk] ∧ ∀ {w : World} {base e : Nat}, (listInv R).fact [.n m, .l xs, .i k, .s sk, .i n, .s s1] w → w.ownsRow base e size (.slice A m c) m xs → (listC R fg size).fact [.p a, .i most, .v g, .s s] [.p A, .n m, .n c, .s sk] w := by
 obtain ⟨i0, i1, i2, i3, i4, l, i5⟩ := hi; have e : k = n := by omega
 subst e; refine ⟨⟨l, by unfold pList; rw [h]; exact i5, by rw [pRep_len i5]; omega⟩, fun {w base e} hf ho => ?_⟩; obtain ⟨l', f1, f2, f3⟩ := hf; refine ⟨l', by unfold pList; rw [h]; exact f1, ?_, by rw [← f2]; exact Rd.of_row ho, f3⟩; have := pRep_len f1; rw [List.length_map] at this; omega
end
end Go.Proofs.YtjhaafbbdgjagaaGreat
namespace Go.Proofs.YtjhaafbbdgjagaaGreat
open Go.RowKit Vc
set_option maxRecDepth 100000
def Iw (n : Int) : Prop := -9223372036854775808 ≤ n ∧ n ≤ 9223372036854775807
def pickF (c n : Int) : Int := if c < 0 then Int.tmod (0 - (c + 1)) n else Int.tmod c n
def PickS : Ctr where
 pre us _ := match us with
  | [.i c, .i n] => Iw c ∧ 0 < n
  | _ => False
 post us os := match us with
  | [.i c, .i n] => os = [.i (pickF c n)]
  | _ => False
 fact _ _ _ := True
def cfg_pick : Cfg := {  }
def vcd_pick : { v : VC // vcOf Tryz.prog cfg_pick 7 = v } := by refine ⟨?v, ?h⟩; rotate_left; conv => lhs; reduce
theorem vce_pick : vcOf Tryz.prog cfg_pick 7 = vcd_pick.1 := vcd_pick.2
theorem pick_ok : Keeps Tryz.prog 7 PickS := by
 refine keeps_v Tryz.func7 cfg_pick vce_pick [.i, .i] PickS [] trivial (by kernel_rfl) (fun _ _ _ h _ => h) ?_; intro c n w hp; refine ⟨[], vc_use ?Q ?h ?g⟩
 case h => intro O C s I b; conv => lhs; reduce
 dsimp only [std]; simp only [ctrOf, invOf, List.lookup, Nat.reduceBEq, Option.getD_some, Int.reduceOfNat, Int.reduceNegSucc]; obtain ⟨⟨h1, h2⟩, h3⟩ : Iw c ∧ 0 < n := hp; refine ⟨fun h => ⟨by omega, by omega, by omega, ?_, fun _ _ => trivial⟩, fun h => ⟨by omega, ?_, fun _ _ => trivial⟩⟩
 ·show _ = _; rw [pickF, if_pos h]
 ·show _ = _; rw [pickF, if_neg h]
end Go.Proofs.YtjhaafbbdgjagaaGreat
