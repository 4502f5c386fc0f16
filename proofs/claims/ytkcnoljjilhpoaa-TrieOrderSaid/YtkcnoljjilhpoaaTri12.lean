/- Tries in memory, by package trie: what all hands to yield. -/
import Derived.Test.YtkcnoljjilhpoaaProg
import Derived.Test.YtkcnoljjilhpoaaTri11
import Derived.RangeFuncNested
import Derived.RangeFuncBound
import Derived.RangeFuncCalls
import Derived.RangeFuncLeaves
import Derived.RangeFuncBox
import Derived.Shelf.Abstract
import Derived.Shelf.RegionOpen
import Derived.WalkKit
import Derived.OwnWalkIn
import Derived.TacticsInMore
import Derived.LoopNIn
import Derived.LoopIn
import Derived.Maps.AppendAt
import Derived.Deep.QuietTactic
import Derived.BigQuiet
namespace Go.Proofs.Ytkcnoljjilhpoaa
open Go.RowKit Go.Shelf
theorem room_of_none {F : Fence} (hd : F.depth = none) (k : Nat) : F.room k := fun d h => by rw [hd] at h; cases h
theorem roundIn_any {F : Fence} (hd : F.depth = none) {m m' : Nat} {P : Program} {l : Nat} {f : FuncId} {tmps : Array Value} {assign body : Code} {w : World} {R : Ending → World → Prop}
    (h : RoundIn F m P l f tmps assign body w R) : RoundIn F m' P l f tmps assign body w R := ⟨h.1, fun c cs _ => h.2 c cs (room_of_none hd _)⟩
theorem yieldAt_any {F : Fence} (hd : F.depth = none) {m : Nat} (m' : Nat) {P : Program} {l : Nat} {args : Array Value} {W : World} {R : Ending → World → Prop} (h : YieldAt F m P l args W R) : YieldAt F m' P l args W R := by
  obtain ⟨fn, tmps, assign, body, hy, hR⟩ := h
  exact ⟨fn, tmps, assign, body, hy, roundIn_any hd hR⟩
/-- what a round keeps: every block that is known whole, but slices of items and the variable that holds them -/
def KeepT (W W' : World) : Prop := ∀ (b : Nat) (t : TypeId) (cs : Array Value), t ≠ 31 → t ≠ 46 → Blk W b t cs → Blk W' b t cs
theorem KeepT.refl (W : World) : KeepT W W := fun _ _ _ _ _ h => h
theorem KeepT.trans {A B C : World} (h : KeepT A B) (k : KeepT B C) : KeepT A C := fun b t cs h1 h2 h3 => k b t cs h1 h2 (h b t cs h1 h2 h3)
theorem KeepT.drew {A B : World} (h : KeepT A B) : KeepT A B.drew := fun b t cs h1 h2 h3 => (h b t cs h1 h2 h3).drew
theorem KeepT.alloc {A B : World} (h : KeepT A B) (o : Obj) : KeepT A (B.alloc o) := fun b t cs h1 h2 h3 => (h b t cs h1 h2 h3).alloc o
theorem KeepT.putObj {W : World} {l : Nat} {o o' : Obj} (h : W.heap[l]? = some o) (hc : o.isCells = false) : KeepT W (W.putObj l o') := fun b t cs _ _ h3 => by
  have hne : b ≠ l := fun e => by
    subst e
    unfold Blk at h3
    rw [h3] at h
    cases h
    cases hc
  exact h3.grown (grownBy_putObj' W l o') (fun e => hne (by cases e; rfl))
theorem TrR.keepT {wd : Int} {w w' : World} (hk : KeepT w w') : ∀ {t : Tr} {B q : Nat}, TrR wd w B t q → TrR wd w' B t q
  | .leaf k v, B, q, h => ⟨h.1, hk _ _ _ (by decide) (by decide) h.2⟩
  | .fork p l r, B, q, h => by
    obtain ⟨h1, a, b, h2, h3, h4⟩ := h
    exact ⟨h1, a, b, hk _ _ _ (by decide) (by decide) h2, h3.keepT hk, h4.keepT hk⟩
theorem hdd (k : Nat) : Fence.wide.depth.isSome = true → 1 ≤ k := fun h => by cases h
set_option maxRecDepth 100000 in
set_option maxHeartbeats 2000000 in
/-- the function that is handed to all -/
theorem clo_in (n l q Bp By : Nat) (k key : Key) (W : World) (R : Ending → World → Prop)
    (hp : Blk W Bp 9 #[.string (bs k)]) (hy : Blk W By 218 #[.func (.yield l) #[] #[]]) (hq : W.cell? ⟨q, 0, none⟩ = some (.string (bs key)))
    (hno : preB k key = false → ∀ d, R (.returned (.bool true)) (W.drewN d))
    (hyes : preB k key = true → YieldAt Fence.wide (n - 1) Try.prog l #[.pointer (some ⟨q, 0, none⟩)] W.drew fun e W' => ∃ b, e = .returned (.bool b) ∧ R e W') :
    CallsIn Fence.wide n Try.prog 147 #[.pointer (some ⟨q, 0, none⟩), .pointer (some ⟨Bp, 0, none⟩), .pointer (some ⟨By, 0, none⟩)] W R := by
  have hw1 : ∀ f, Fence.wide.fn f := fun _ => trivial
  have hw2 : Fence.wide.depth.isSome = false := rfl
  have hmx : Try.prog.follows .mixedOrders = true := by kernel_rfl
  cases hb : preB k key
  · have hR := Lib.hid (hno hb)
    clear hno hyes
    refine callsIn_wide.2 ?_
    have hpf : ∀ W, Calls Try.prog 148 #[.string (bs key), .string (bs k)] W fun e w' => e = .returned (.bool false) ∧ w' = W := fun W => (hasPrefix_any key k W).mono fun e w' h => ⟨by rw [← hb]; exact h.1, h.2.symm⟩
    clear hw1 hw2 hmx
    have c0 := (hp.cell 0).trans (show _ = some (Value.string (bs k)) from rfl)
    have c1 := (hy.cell 0).trans (show _ = some (Value.func (.yield l) #[] #[]) from rfl)
    go_enter Try.func147, Try.ntmps147
    go_wp2_with fail
    go_quiet ((go_at_call 148; exact Calls.quiet_of_same (hpf _)))
    go_wp2_with fail
    exact hR.out _
  · obtain ⟨fn, tmps, assign, body, hyy, hR⟩ := hyes hb
    clear hno
    have c0 := (hp.drew.cell 0).trans (show _ = some (Value.string (bs k)) from rfl)
    have c1 := (hy.drew.cell 0).trans (show _ = some (Value.func (.yield l) #[] #[]) from rfl)
    have hq : W.drew.cell? ⟨q, 0, none⟩ = some (.string (bs key)) := hq
    have hpre := hasPrefix_any key k W.drew
    rw [hb] at hpre
    refine callsIn_of_wp Try.func147 rfl trivial ?_ rfl
    simp only [Try.ntmps147, List.size_toArray, List.length_cons, List.length_nil, Nat.reduceAdd, Nat.reduceSub, Array.replicate_succ, Array.replicate_zero, List.push_toArray, List.append_toArray, List.nil_append, List.cons_append]
    gi_wp2
    gi_region_with_o (first
      | (gi_at_call 148; refine (callsIn_wide.2 hpre).mono ?_; rintro e w' ⟨rfl, rfl⟩)
      | (refine hR.mono ?_; rintro e w' ⟨b, rfl, hr⟩))
    all_goals
      gi_wp2
      go_ret
      exact hr
set_option maxRecDepth 100000 in
set_option maxHeartbeats 4000000 in
/-- all, from any node on -/
theorem all_in (wd : Int) (l Bp By B N : Nat) (k : Key) (w0 : World) (J Jx : List Ent → World → Prop)
    (hJd : ∀ es W d, J es W → J es (W.drewN d))
    (hY : ∀ m es (q : Nat) (x : Ent) W, TrR wd w0 B (.leaf x.1 x.2) q → J es W → KeepT w0 W → es.length < N → YieldAt Fence.wide m Try.prog l #[.pointer (some ⟨q, 0, none⟩)] W fun e W' =>
      (e = .returned (.bool true) ∧ J (es ++ [x]) W' ∧ KeepT W W') ∨ (e = .returned (.bool false) ∧ Jx (es ++ [x]) W')) :
    ∀ (t : Tr) (n q : Nat) (es : List Ent) (W : World), TrR wd w0 B t q → KeepT w0 W → Blk W Bp 9 #[.string (bs k)] → Blk W By 218 #[.func (.yield l) #[] #[]] → J es W → es.length + (preL k t.items).length ≤ N →
      CallsIn Fence.wide n Try.prog 146 #[.pointer (some ⟨q, 0, none⟩), .func (.func 147) #[] #[.pointer (some ⟨Bp, 0, none⟩), .pointer (some ⟨By, 0, none⟩)]] W fun e W' =>
        (e = .returned (.bool true) ∧ J (es ++ preL k t.items) W' ∧ KeepT W W') ∨ (e = .returned (.bool false) ∧ ∃ p, p <+: preL k t.items ∧ Jx (es ++ p) W') := by
  have hw1 : ∀ f, Fence.wide.fn f := fun _ => trivial
  have hw2 : Fence.wide.depth.isSome = false := rfl
  intro t
  induction t with
  | leaf a v =>
    intro n q es W ht hk hp hy hJ hN
    have hblk := hk _ _ _ (by decide) (by decide) ht.2
    have c2 := (hblk.cell 2).trans (show _ = some (Value.int .i64 (-1)) from rfl)
    have c0 := (hblk.cell 0).trans (show _ = some (Value.string (bs a)) from rfl)
    have hcl := clo_in (n - 1) l q Bp By k a W (fun e W' => (e = .returned (.bool true) ∧ J (es ++ preL k [(a, v)]) W' ∧ KeepT W W') ∨ (e = .returned (.bool false) ∧ ∃ p, p <+: preL k [(a, v)] ∧ Jx (es ++ p) W')) hp hy c0
      (fun hb d => .inl ⟨rfl, by rw [show preL k [(a, v)] = [] from by simp [preL, hb]]; simpa using hJd _ _ d hJ, fun b t cs _ _ h => h.drewN d⟩)
      (fun hb => by
        have e1 : preL k [(a, v)] = [(a, v)] := by simp [preL, hb]
        rw [Tr.items, e1] at hN
        rw [e1]
        refine YieldAt.mono (hY _ es q (a, v) W.drew ht (hJd _ _ 1 hJ) hk.drew (by simp at hN; omega)) fun e W' h => ?_
        rcases h with ⟨rfl, h1, h2⟩ | ⟨rfl, h1⟩
        · exact ⟨true, rfl, .inl ⟨rfl, h1, fun b t cs x1 x2 h => h2 b t cs x1 x2 h.drew⟩⟩
        · exact ⟨false, rfl, .inr ⟨rfl, [(a, v)], List.prefix_rfl, h1⟩⟩)
    rw [show Tr.items (.leaf a v) = [(a, v)] from rfl]
    generalize preL k [(a, v)] = pl at *
    clear hY hJd ht hN hblk
    refine callsIn_of_wp Try.func146 rfl trivial ?_ rfl
    simp only [Try.ntmps146, List.size_toArray, List.length_cons, List.length_nil, Nat.reduceAdd, Nat.reduceSub, Array.replicate_succ, Array.replicate_zero, List.push_toArray, List.append_toArray, List.nil_append, List.cons_append]
    gi_wp2_with (gi_at_call 147; refine hcl.mono ?_; rintro e W1 (⟨rfl, hj, hkk⟩ | ⟨rfl, p, hpp, hx⟩))
    · go_ret
      exact .inl ⟨rfl, hj, hkk⟩
    · go_ret
      exact .inr ⟨rfl, p, hpp, hx⟩
  | fork p tl tr ihl ihr =>
    intro n q es W ht hk hp hy hJ hN
    obtain ⟨hq, a, b, hb0, hl, hr⟩ := ht
    have hblk := hk _ _ _ (by decide) (by decide) hb0
    have hl2 := hl.more (Nat.le_of_lt hq)
    have hr2 := hr.more (Nat.le_of_lt hq)
    have c2 := (hblk.cell 2).trans (show _ = some (Value.int .i64 (p : Int)) from rfl)
    have c3 := (hblk.cell 3).trans (show _ = some (Value.pointer (some ⟨a, 0, none⟩)) from rfl)
    have hge : decide ((p : Int) < 0) = false := decide_eq_false (by omega)
    rw [show Tr.items (.fork p tl tr) = tl.items ++ tr.items from rfl, preL_append] at hN
    rw [List.length_append] at hN
    have ih1 := (ihl (n - 1) a es W hl2 hk hp hy hJ (by omega)).mono (R' := fun e W1 =>
        (e = .returned (.bool true) ∧ W1.cell? ⟨q, 4, none⟩ = some (.pointer (some ⟨b, 0, none⟩)) ∧ CallsIn Fence.wide (n - 1) Try.prog 146 #[.pointer (some ⟨b, 0, none⟩), .func (.func 147) #[] #[.pointer (some ⟨Bp, 0, none⟩), .pointer (some ⟨By, 0, none⟩)]] W1 fun e W' =>
        (e = .returned (.bool true) ∧ J (es ++ (preL k tl.items ++ preL k tr.items)) W' ∧ KeepT W W') ∨ (e = .returned (.bool false) ∧ ∃ p, p <+: (preL k tl.items ++ preL k tr.items) ∧ Jx (es ++ p) W')) ∨
        (e = .returned (.bool false) ∧ ∃ p, p <+: (preL k tl.items ++ preL k tr.items) ∧ Jx (es ++ p) W1))
      (fun e W1 h => h.elim
        (fun ⟨he, hj, hk1⟩ => .inl ⟨he, ((hk1 _ _ _ (by decide) (by decide) hblk).cell 4).trans rfl,
          (ihr (n - 1) b (es ++ preL k tl.items) W1 hr2 (hk.trans hk1) (hk1 _ _ _ (by decide) (by decide) hp) (hk1 _ _ _ (by decide) (by decide) hy) hj (by rw [List.length_append]; omega)).mono (fun e W2 h2 => h2.elim
            (fun ⟨he2, hj2, hk2⟩ => .inl ⟨he2, by rw [← List.append_assoc]; exact hj2, hk1.trans hk2⟩)
            (fun ⟨he2, p2, hp2, hx2⟩ => .inr ⟨he2, preL k tl.items ++ p2, (List.prefix_append_right_inj _).mpr hp2, by rw [← List.append_assoc]; exact hx2⟩))⟩)
        (fun ⟨he, p1, hp1, hx⟩ => .inr ⟨he, p1, hp1.trans (List.prefix_append _ _), hx⟩))
    rw [show Tr.items (.fork p tl tr) = tl.items ++ tr.items from rfl, preL_append]
    generalize preL k tl.items ++ preL k tr.items = pl at *
    clear hY hJd ihl ihr hN hblk hl hr hl2 hr2 hb0 hp hy hk
    refine callsIn_of_wp Try.func146 rfl trivial ?_ rfl
    simp only [Try.ntmps146, List.size_toArray, List.length_cons, List.length_nil, Nat.reduceAdd, Nat.reduceSub, Array.replicate_succ, Array.replicate_zero, List.push_toArray, List.append_toArray, List.nil_append, List.cons_append]
    gi_wp2_with (first
      | (gi_at_call 146; refine ih1.mono ?_; clear ih1; rintro e W1 (⟨rfl, c4, ih2⟩ | ⟨rfl, p1, hp1, hx1⟩))
      | (gi_at_call 146; refine ih2.mono ?_; clear ih2; rintro e W2 (⟨rfl, hj2, hk2⟩ | ⟨rfl, p2, hp2, hx2⟩)))
    · go_ret
      exact .inl ⟨rfl, hj2, hk2⟩
    · go_ret
      exact .inr ⟨rfl, p2, hp2, hx2⟩
    · first
        | (go_ret
           exact .inr ⟨rfl, p1, hp1, hx1⟩)
        | (refine ⟨fun _ h => (by cases h), ?_⟩
           gi_wp2
           go_ret
           exact .inr ⟨rfl, p1, hp1, hx1⟩)
end Go.Proofs.Ytkcnoljjilhpoaa
