/- Of the texts Tri12, Tri13, Tri14. -/
import Derived.Test.YtjjkdmngmopjbaaProg
import Derived.Test.YtjjkdmngmopjbaaG12
import Derived.RangeFuncNested
import Derived.RangeFuncBound
import Derived.RangeFuncCalls
import Derived.RangeFuncLeaves
import Derived.RangeFuncBox
import Derived.Shelf.Abstract
import Derived.Shelf.RegionOpen
import Derived.WalkKit
import Derived.OwnWalkIn
import Derived.TacticsInMore
import Derived.LoopNIn
import Derived.LoopIn
import Derived.Maps.AppendAt
import Derived.Deep.QuietTactic
import Derived.BigQuiet
namespace Go.Proofs.Ytjjkdmngmopjbaa
open Go.RowKit Go.Shelf
theorem room_of_none {F : Fence} (hd : F.depth = none) (k : Nat) : F.room k := fun d h => by rw [hd] at h; cases h
theorem roundIn_any {F : Fence} (hd : F.depth = none) {m m' : Nat} {P : Program} {l : Nat} {f : FuncId} {tmps : Array Value} {assign body : Code} {w : World} {R : Ending → World → Prop}
    (h : RoundIn F m P l f tmps assign body w R) : RoundIn F m' P l f tmps assign body w R := ⟨h.1, fun c cs _ => h.2 c cs (room_of_none hd _)⟩
theorem yieldAt_any {F : Fence} (hd : F.depth = none) {m : Nat} (m' : Nat) {P : Program} {l : Nat} {args : Array Value} {W : World} {R : Ending → World → Prop} (h : YieldAt F m P l args W R) : YieldAt F m' P l args W R := by
  obtain ⟨fn, tmps, assign, body, hy, hR⟩ := h
  exact ⟨fn, tmps, assign, body, hy, roundIn_any hd hR⟩
/-- what a round keeps: every block that is known whole, but slices of items and the variable that holds them -/
def KeepT (W W' : World) : Prop := ∀ (b : Nat) (t : TypeId) (cs : Array Value), t ≠ 55 → t ≠ 132 → Blk W b t cs → Blk W' b t cs
theorem KeepT.refl (W : World) : KeepT W W := fun _ _ _ _ _ h => h
theorem KeepT.trans {A B C : World} (h : KeepT A B) (k : KeepT B C) : KeepT A C := fun b t cs h1 h2 h3 => k b t cs h1 h2 (h b t cs h1 h2 h3)
theorem KeepT.drew {A B : World} (h : KeepT A B) : KeepT A B.drew := fun b t cs h1 h2 h3 => (h b t cs h1 h2 h3).drew
theorem KeepT.alloc {A B : World} (h : KeepT A B) (o : Obj) : KeepT A (B.alloc o) := fun b t cs h1 h2 h3 => (h b t cs h1 h2 h3).alloc o
theorem KeepT.putObj {W : World} {l : Nat} {o o' : Obj} (h : W.heap[l]? = some o) (hc : o.isCells = false) : KeepT W (W.putObj l o') := fun b t cs _ _ h3 => by
  have hne : b ≠ l := fun e => by
    subst e
    unfold Blk at h3
    rw [h3] at h
    cases h
    cases hc
  exact h3.grown (grownBy_putObj' W l o') (fun e => hne (by cases e; rfl))
theorem TrR.keepT {wd : Int} {w w' : World} (hk : KeepT w w') : ∀ {t : Tr} {B q : Nat}, TrR wd w B t q → TrR wd w' B t q
  | .leaf k v, B, q, h => ⟨h.1, hk _ _ _ (by decide) (by decide) h.2⟩
  | .fork p l r, B, q, h => by
    obtain ⟨h1, a, b, h2, h3, h4⟩ := h
    exact ⟨h1, a, b, hk _ _ _ (by decide) (by decide) h2, h3.keepT hk, h4.keepT hk⟩
theorem hdd (k : Nat) : Fence.wide.depth.isSome = true → 1 ≤ k := fun h => by cases h
set_option maxRecDepth 100000 in
set_option maxHeartbeats 2000000 in
/-- the function that is handed to all -/
theorem clo_in (n l q Bp By : Nat) (k key : Key) (W : World) (R : Ending → World → Prop)
    (hp : Blk W Bp 9 #[.string (bs k)]) (hy : Blk W By 176 #[.func (.yield l) #[] #[]]) (hq : W.cell? ⟨q, 0, none⟩ = some (.string (bs key)))
    (hno : preB k key = false → ∀ d, R (.returned (.bool true)) (W.drewN d))
    (hyes : preB k key = true → YieldAt Fence.wide (n - 1) Try.prog l #[.pointer (some ⟨q, 0, none⟩)] W.drew fun e W' => ∃ b, e = .returned (.bool b) ∧ R e W') :
    CallsIn Fence.wide n Try.prog 110 #[.pointer (some ⟨q, 0, none⟩), .pointer (some ⟨Bp, 0, none⟩), .pointer (some ⟨By, 0, none⟩)] W R := by
  have hw1 : ∀ f, Fence.wide.fn f := fun _ => trivial
  have hw2 : Fence.wide.depth.isSome = false := rfl
  have hmx : Try.prog.follows .mixedOrders = true := by kernel_rfl
  cases hb : preB k key
  · have hR := Lib.hid (hno hb)
    clear hno hyes
    refine callsIn_wide.2 ?_
    have hpf : ∀ W, Calls Try.prog 111 #[.string (bs key), .string (bs k)] W fun e w' => e = .returned (.bool false) ∧ w' = W := fun W => (hasPrefix_any key k W).mono fun e w' h => ⟨by rw [← hb]; exact h.1, h.2.symm⟩
    clear hw1 hw2 hmx
    have c0 := (hp.cell 0).trans (show _ = some (Value.string (bs k)) from rfl)
    have c1 := (hy.cell 0).trans (show _ = some (Value.func (.yield l) #[] #[]) from rfl)
    go_enter Try.func110, Try.ntmps110
    go_wp2_with fail
    go_quiet ((go_at_call 111; exact Calls.quiet_of_same (hpf _)))
    go_wp2_with fail
    exact hR.out _
  · obtain ⟨fn, tmps, assign, body, hyy, hR⟩ := hyes hb
    clear hno
    have c0 := (hp.drew.cell 0).trans (show _ = some (Value.string (bs k)) from rfl)
    have c1 := (hy.drew.cell 0).trans (show _ = some (Value.func (.yield l) #[] #[]) from rfl)
    have hq : W.drew.cell? ⟨q, 0, none⟩ = some (.string (bs key)) := hq
    have hpre := hasPrefix_any key k W.drew
    rw [hb] at hpre
    refine callsIn_of_wp Try.func110 rfl trivial ?_ rfl
    simp only [Try.ntmps110, List.size_toArray, List.length_cons, List.length_nil, Nat.reduceAdd, Nat.reduceSub, Array.replicate_succ, Array.replicate_zero, List.push_toArray, List.append_toArray, List.nil_append, List.cons_append]
    gi_wp2
    gi_region_with_o (first
      | (gi_at_call 111; refine (callsIn_wide.2 hpre).mono ?_; rintro e w' ⟨rfl, rfl⟩)
      | (refine hR.mono ?_; rintro e w' ⟨b, rfl, hr⟩))
    all_goals
      gi_wp2
      go_ret
      exact hr
set_option maxRecDepth 100000 in
set_option maxHeartbeats 4000000 in
/-- all, from any node on -/
theorem all_in (wd : Int) (l Bp By B N : Nat) (k : Key) (w0 : World) (J Jx : List Ent → World → Prop)
    (hJd : ∀ es W d, J es W → J es (W.drewN d))
    (hY : ∀ m es (q : Nat) (x : Ent) W, TrR wd w0 B (.leaf x.1 x.2) q → J es W → KeepT w0 W → es.length < N → YieldAt Fence.wide m Try.prog l #[.pointer (some ⟨q, 0, none⟩)] W fun e W' =>
      (e = .returned (.bool true) ∧ J (es ++ [x]) W' ∧ KeepT W W') ∨ (e = .returned (.bool false) ∧ Jx (es ++ [x]) W')) :
    ∀ (t : Tr) (n q : Nat) (es : List Ent) (W : World), TrR wd w0 B t q → KeepT w0 W → Blk W Bp 9 #[.string (bs k)] → Blk W By 176 #[.func (.yield l) #[] #[]] → J es W → es.length + (preL k t.items).length ≤ N →
      CallsIn Fence.wide n Try.prog 109 #[.pointer (some ⟨q, 0, none⟩), .func (.func 110) #[] #[.pointer (some ⟨Bp, 0, none⟩), .pointer (some ⟨By, 0, none⟩)]] W fun e W' =>
        (e = .returned (.bool true) ∧ J (es ++ preL k t.items) W' ∧ KeepT W W') ∨ (e = .returned (.bool false) ∧ ∃ p, p <+: preL k t.items ∧ Jx (es ++ p) W') := by
  have hw1 : ∀ f, Fence.wide.fn f := fun _ => trivial
  have hw2 : Fence.wide.depth.isSome = false := rfl
  intro t
  induction t with
  | leaf a v =>
    intro n q es W ht hk hp hy hJ hN
    have hblk := hk _ _ _ (by decide) (by decide) ht.2
    have c2 := (hblk.cell 2).trans (show _ = some (Value.int .i64 (-1)) from rfl)
    have c0 := (hblk.cell 0).trans (show _ = some (Value.string (bs a)) from rfl)
    have hcl := clo_in (n - 1) l q Bp By k a W (fun e W' => (e = .returned (.bool true) ∧ J (es ++ preL k [(a, v)]) W' ∧ KeepT W W') ∨ (e = .returned (.bool false) ∧ ∃ p, p <+: preL k [(a, v)] ∧ Jx (es ++ p) W')) hp hy c0
      (fun hb d => .inl ⟨rfl, by rw [show preL k [(a, v)] = [] from by simp [preL, hb]]; simpa using hJd _ _ d hJ, fun b t cs _ _ h => h.drewN d⟩)
      (fun hb => by
        have e1 : preL k [(a, v)] = [(a, v)] := by simp [preL, hb]
        rw [Tr.items, e1] at hN
        rw [e1]
        refine YieldAt.mono (hY _ es q (a, v) W.drew ht (hJd _ _ 1 hJ) hk.drew (by simp at hN; omega)) fun e W' h => ?_
        rcases h with ⟨rfl, h1, h2⟩ | ⟨rfl, h1⟩
        · exact ⟨true, rfl, .inl ⟨rfl, h1, fun b t cs x1 x2 h => h2 b t cs x1 x2 h.drew⟩⟩
        · exact ⟨false, rfl, .inr ⟨rfl, [(a, v)], List.prefix_rfl, h1⟩⟩)
    rw [show Tr.items (.leaf a v) = [(a, v)] from rfl]
    generalize preL k [(a, v)] = pl at *
    clear hY hJd ht hN hblk
    refine callsIn_of_wp Try.func109 rfl trivial ?_ rfl
    simp only [Try.ntmps109, List.size_toArray, List.length_cons, List.length_nil, Nat.reduceAdd, Nat.reduceSub, Array.replicate_succ, Array.replicate_zero, List.push_toArray, List.append_toArray, List.nil_append, List.cons_append]
    gi_wp2_with (gi_at_call 110; refine hcl.mono ?_; rintro e W1 (⟨rfl, hj, hkk⟩ | ⟨rfl, p, hpp, hx⟩))
    · go_ret
      exact .inl ⟨rfl, hj, hkk⟩
    · go_ret
      exact .inr ⟨rfl, p, hpp, hx⟩
  | fork p tl tr ihl ihr =>
    intro n q es W ht hk hp hy hJ hN
    obtain ⟨hq, a, b, hb0, hl, hr⟩ := ht
    have hblk := hk _ _ _ (by decide) (by decide) hb0
    have hl2 := hl.more (Nat.le_of_lt hq)
    have hr2 := hr.more (Nat.le_of_lt hq)
    have c2 := (hblk.cell 2).trans (show _ = some (Value.int .i64 (p : Int)) from rfl)
    have c3 := (hblk.cell 3).trans (show _ = some (Value.pointer (some ⟨a, 0, none⟩)) from rfl)
    have hge : decide ((p : Int) < 0) = false := decide_eq_false (by omega)
    rw [show Tr.items (.fork p tl tr) = tl.items ++ tr.items from rfl, preL_append] at hN
    rw [List.length_append] at hN
    have ih1 := (ihl (n - 1) a es W hl2 hk hp hy hJ (by omega)).mono (R' := fun e W1 =>
        (e = .returned (.bool true) ∧ W1.cell? ⟨q, 4, none⟩ = some (.pointer (some ⟨b, 0, none⟩)) ∧ CallsIn Fence.wide (n - 1) Try.prog 109 #[.pointer (some ⟨b, 0, none⟩), .func (.func 110) #[] #[.pointer (some ⟨Bp, 0, none⟩), .pointer (some ⟨By, 0, none⟩)]] W1 fun e W' =>
        (e = .returned (.bool true) ∧ J (es ++ (preL k tl.items ++ preL k tr.items)) W' ∧ KeepT W W') ∨ (e = .returned (.bool false) ∧ ∃ p, p <+: (preL k tl.items ++ preL k tr.items) ∧ Jx (es ++ p) W')) ∨
        (e = .returned (.bool false) ∧ ∃ p, p <+: (preL k tl.items ++ preL k tr.items) ∧ Jx (es ++ p) W1))
      (fun e W1 h => h.elim
        (fun ⟨he, hj, hk1⟩ => .inl ⟨he, ((hk1 _ _ _ (by decide) (by decide) hblk).cell 4).trans rfl,
          (ihr (n - 1) b (es ++ preL k tl.items) W1 hr2 (hk.trans hk1) (hk1 _ _ _ (by decide) (by decide) hp) (hk1 _ _ _ (by decide) (by decide) hy) hj (by rw [List.length_append]; omega)).mono (fun e W2 h2 => h2.elim
            (fun ⟨he2, hj2, hk2⟩ => .inl ⟨he2, by rw [← List.append_assoc]; exact hj2, hk1.trans hk2⟩)
            (fun ⟨he2, p2, hp2, hx2⟩ => .inr ⟨he2, preL k tl.items ++ p2, (List.prefix_append_right_inj _).mpr hp2, by rw [← List.append_assoc]; exact hx2⟩))⟩)
        (fun ⟨he, p1, hp1, hx⟩ => .inr ⟨he, p1, hp1.trans (List.prefix_append _ _), hx⟩))
    rw [show Tr.items (.fork p tl tr) = tl.items ++ tr.items from rfl, preL_append]
    generalize preL k tl.items ++ preL k tr.items = pl at *
    clear hY hJd ihl ihr hN hblk hl hr hl2 hr2 hb0 hp hy hk
    refine callsIn_of_wp Try.func109 rfl trivial ?_ rfl
    simp only [Try.ntmps109, List.size_toArray, List.length_cons, List.length_nil, Nat.reduceAdd, Nat.reduceSub, Array.replicate_succ, Array.replicate_zero, List.push_toArray, List.append_toArray, List.nil_append, List.cons_append]
    gi_wp2_with (first
      | (gi_at_call 109; refine ih1.mono ?_; clear ih1; rintro e W1 (⟨rfl, c4, ih2⟩ | ⟨rfl, p1, hp1, hx1⟩))
      | (gi_at_call 109; refine ih2.mono ?_; clear ih2; rintro e W2 (⟨rfl, hj2, hk2⟩ | ⟨rfl, p2, hp2, hx2⟩)))
    · go_ret
      exact .inl ⟨rfl, hj2, hk2⟩
    · go_ret
      exact .inr ⟨rfl, p2, hp2, hx2⟩
    · first
        | (go_ret
           exact .inr ⟨rfl, p1, hp1, hx1⟩)
        | (refine ⟨fun _ h => (by cases h), ?_⟩
           gi_wp2
           go_ret
           exact .inr ⟨rfl, p1, hp1, hx1⟩)
end Go.Proofs.Ytjjkdmngmopjbaa

namespace Go.Proofs.Ytjjkdmngmopjbaa
open Go.RowKit Go.Shelf
set_option maxRecDepth 100000 in
theorem allNil_any (f : Value) (W : World) :
    Calls Try.prog 109 #[.pointer none, f] W fun e W' => e = .returned (.bool true) ∧ W' = W := by
  go_enter Try.func109, Try.ntmps109
  go_wp2_with fail
  go_ret
  exact ⟨rfl, rfl⟩
theorem KeepT.drewN {A B : World} (h : KeepT A B) (d : Nat) : KeepT A (B.drewN d) := fun b t cs h1 h2 h3 => (h b t cs h1 h2 h3).drewN d
/-- what comes out of the iterator -/
def FromR (J Jx : List Ent → World → Prop) (l : List Ent) (e : Ending) (W' : World) : Prop := (∃ v, e = .returned v) ∧ (J l W' ∨ ∃ p, p <+: l ∧ Jx p W')
set_option maxRecDepth 100000 in
set_option maxHeartbeats 2000000 in
theorem from1No_any (wd : Int) (k : Key) (l Bt Bp : Nat) (J Jx : List Ent → World → Prop) (hk : k.length ≤ 1000000000)
    (hJd : ∀ es W d, J es W → J es (W.drewN d)) (hJa : ∀ es W o, J es W → J es (W.alloc o)) (W : World)
    (hBt : Blk W Bt 53 #[.int .i64 wd, .pointer none]) (h0 : J [] W) :
    Calls Try.prog 108 #[.func (.yield l) #[] #[], .pointer (some ⟨Bt, 0, none⟩), .pointer (some ⟨Bp, 0, none⟩)] W (FromR J Jx []) := by
  have hmf : ∀ (fn : Fn) (first cap : Array Value) (w : World), (Instr.makeFunc fn first cap).run Try.prog w = .ok (.func fn first cap) w := fun _ _ _ _ => rfl
  have hB1 : Blk (W.alloc (.cells #[.func (.yield l) #[] #[]] 176)) Bt 53 #[.int .i64 wd, .pointer none] := hBt.alloc _
  have HJ := Lib.hid (fun d => hJd [] _ d (hJa [] W (.cells #[.func (.yield l) #[] #[]] 176) h0))
  generalize hW1 : W.alloc (.cells #[.func (.yield l) #[] #[]] 176) = W1 at *
  have c1 := (hB1.cell 1).trans (show _ = some (Value.pointer none) from rfl)
  clear hJd hJa h0 hBt
  go_enter Try.func108, Try.ntmps108
  go_wp2_with fail
  go_loopw [4] (fun x wr => x = .pointer none ∧ wr = W1) (fun _ _ => 0)
  case atStart => exact ⟨rfl, rfl⟩
  case round =>
    obtain ⟨rfl, rfl⟩ := hrel
    go_wp2_with fail
    go_quiet (fail)
    go_wp2_with fail
    refine (allNil_any _ _).mono ?_
    rintro e w2 ⟨rfl, rfl⟩
    go_wp2_with fail
    go_end0
    exact ⟨⟨_, rfl⟩, .inl (HJ.out _)⟩
set_option maxRecDepth 100000 in
set_option maxHeartbeats 4000000 in
theorem from1_any (wd : Int) (k : Key) (t : Tr) (q l Bt Bp B N : Nat) (w0 : World) (J Jx : List Ent → World → Prop) (hk : k.length ≤ 1000000000) (hlow : lowT t) (hok : t.ok)
    (hJd : ∀ es W d, J es W → J es (W.drewN d)) (hJa : ∀ es W o, J es W → J es (W.alloc o))
    (hY : ∀ m es (q : Nat) (x : Ent) W, TrR wd w0 B (.leaf x.1 x.2) q → J es W → KeepT w0 W → es.length < N → YieldAt Fence.wide m Try.prog l #[.pointer (some ⟨q, 0, none⟩)] W fun e W' =>
      (e = .returned (.bool true) ∧ J (es ++ [x]) W' ∧ KeepT W W') ∨ (e = .returned (.bool false) ∧ Jx (es ++ [x]) W'))
    (W : World) (ht : TrR wd w0 B t q) (hkw : KeepT w0 W) (hN : (preL k t.items).length ≤ N)
    (hBt : Blk W Bt 53 #[.int .i64 wd, .pointer (some ⟨q, 0, none⟩)]) (hBp : Blk W Bp 9 #[.string (bs k)]) (h0 : J [] W) :
    Calls Try.prog 108 #[.func (.yield l) #[] #[], .pointer (some ⟨Bt, 0, none⟩), .pointer (some ⟨Bp, 0, none⟩)] W (FromR J Jx (preL k t.items)) := by
  have hmf : ∀ (fn : Fn) (first cap : Array Value) (w : World), (Instr.makeFunc fn first cap).run Try.prog w = .ok (.func fn first cap) w := fun _ _ _ _ => rfl
  have hB1 : Blk (W.alloc (.cells #[.func (.yield l) #[] #[]] 176)) Bt 53 #[.int .i64 wd, .pointer (some ⟨q, 0, none⟩)] := hBt.alloc _
  have hP1 : Blk (W.alloc (.cells #[.func (.yield l) #[] #[]] 176)) Bp 9 #[.string (bs k)] := hBp.alloc _
  have hY1 : Blk (W.alloc (.cells #[.func (.yield l) #[] #[]] 176)) W.heap.size 176 #[.func (.yield l) #[] #[]] := Blk.new _ _ _
  have HJ := Lib.hid (fun d => hJd [] _ d (hJa [] W (.cells #[.func (.yield l) #[] #[]] 176) h0))
  have hk1 := hkw.alloc (.cells #[.func (.yield l) #[] #[]] 176)
  generalize hW1 : W.alloc (.cells #[.func (.yield l) #[] #[]] 176) = W1 at *
  have HA := Lib.hid (fun (t' : Tr) (q' : Nat) d (h1 : TrR wd w0 B t' q') (h2 : preL k t'.items = preL k t.items) => callsIn_wide.1 (all_in wd l Bp W.heap.size B N k w0 J Jx hJd hY t' 1 q' [] (W1.drewN d) h1 (hk1.drewN d) (hP1.drewN d) (hY1.drewN d) (HJ.out d) (by rw [h2]; simpa using hN)))
  have c1 := (hB1.cell 1).trans (show _ = some (Value.pointer (some ⟨q, 0, none⟩)) from rfl)
  have cp := (hP1.cell 0).trans (show _ = some (Value.string (bs k)) from rfl)
  have hR : Hid (∃ t' : Tr, TrR wd w0 B t' q ∧ lowT t' ∧ t'.ok ∧ preL k t'.items = preL k t.items) := ⟨t, ht, hlow, hok, rfl⟩
  clear hJd hJa h0 hBt hBp hY hY1 hkw hlow hok ht
  go_enter Try.func108, Try.ntmps108
  go_wp2_with fail
  go_loopw [4] (fun x wr => ∃ (d q' : Nat), x = .pointer (some ⟨q', 0, none⟩) ∧ wr = W1.drewN d ∧ Hid (∃ t' : Tr, TrR wd w0 B t' q' ∧ lowT t' ∧ t'.ok ∧ preL k t'.items = preL k t.items)) (fun x _ => ptrNo x)
  case atStart => exact ⟨0, q, rfl, rfl, hR⟩
  case round =>
    clear hR
    obtain ⟨d, q', rfl, rfl, t', ht, hlow, hok, hpl⟩ := hrel
    have ht1 := ht.keepT hk1
    have hpos := ht1.pos
    have hm1 : IntKind.i64.wrap (9 * (k.length : Int)) = ((9 * k.length : Nat) : Int) := by rw [IntWalk.i64_in _ (by omega)]; omega
    have hm2 : wrap64 (9 * (k.length : Int)) = ((9 * k.length : Nat) : Int) := by rw [← IntWalk.i64_left]; exact hm1
    cases t' with
    | leaf a v =>
      have hc := HA.out (.leaf a v) q'
      unfold posT at hpos
      clear ht1
      go_wp2_with fail
      go_quiet (fail)
      go_wp2_with fail
      refine (hc _ ht hpl).mono ?_
      rintro e w2 (⟨rfl, hj, _⟩ | ⟨rfl, p, hp, hx⟩)
      · go_wp2_with fail
        go_end0
        exact ⟨⟨_, rfl⟩, .inl (by rw [← hpl]; simpa using hj)⟩
      · go_wp2_with fail
        go_end0
        exact ⟨⟨_, rfl⟩, .inr ⟨p, by rw [← hpl]; exact hp, by simpa using hx⟩⟩
    | fork p tl tr =>
      have hge : decide ((0 : Int) ≤ (p : Int)) = true := decide_eq_true (by omega)
      unfold posT at hpos
      by_cases hlt : p < 9 * k.length
      · have hlti : decide ((p : Int) < ((9 * k.length : Nat) : Int)) = true := decide_eq_true (by omega)
        obtain ⟨hq1, a, b, hblk, hl, hr⟩ := ht
        obtain ⟨hq1', a', b', hblk1, _, _⟩ := ht1
        have h3 := (hblk1.cell 3).trans (show _ = some (Value.pointer (some ⟨a', 0, none⟩)) from rfl)
        have h4 := (hblk1.cell 4).trans (show _ = some (Value.pointer (some ⟨b', 0, none⟩)) from rfl)
        obtain ⟨rfl, rfl⟩ : a = a' ∧ b = b' := by
          have := hk1 _ _ _ (by decide) (by decide) hblk
          unfold Blk at this hblk1
          rw [this] at hblk1
          simp only [Option.some.injEq, Obj.cells.injEq, Array.mk.injEq, List.cons.injEq, Value.pointer.injEq, Addr.mk.injEq] at hblk1
          exact ⟨hblk1.1.2.2.2.1.1, hblk1.1.2.2.2.2.1.1⟩
        have hnext : Hid (∃ t' : Tr, TrR wd w0 B t' (if bitB k p then b else a) ∧ lowT t' ∧ t'.ok ∧ preL k t'.items = preL k t.items) := by
          show ∃ _, _
          rw [← hpl]
          have hs := Tr.sub_pre k (.fork p tl tr) hok
          rw [show (Tr.fork p tl tr).sub k = if p < 9 * k.length then (if bitB k p then tr.sub k else tl.sub k) else .fork p tl tr from rfl, if_pos hlt] at hs
          split
          · rename_i hb
            rw [if_pos hb] at hs
            exact ⟨tr, hr.more (by omega), hlow.2.2, hok.2.1, by rw [hs, Tr.sub_pre k tr hok.2.1]⟩
          · rename_i hb
            rw [if_neg hb] at hs
            exact ⟨tl, hl.more (by omega), hlow.2.1, hok.1, by rw [hs, Tr.sub_pre k tl hok.1]⟩
        have hlt2 : (if bitB k p then b else a) < q' := by
          have := hl.lt
          have := hr.lt
          split <;> omega
        have hsd := fun n => side_any k p a b q' (W1.drewN n) hk hlow.1 hpos h3 h4
        generalize (if bitB k p then b else a) = c at *
        clear hblk hblk1 hl hr hlow hok hpl HA
        go_wp2_with fail
        go_quiet (fail)
        go_wp2_with fail
        refine (hsd _).mono ?_
        rintro e w2 ⟨rfl, rfl⟩
        go_wp2_with fail
        go_roundw
        case rel => exact ⟨_, c, rfl, rfl, hnext⟩
        case measure => simpa [ptrNo] using hlt2
      · have hlti : decide ((p : Int) < ((9 * k.length : Nat) : Int)) = false := decide_eq_false (by omega)
        have hc := HA.out (.fork p tl tr) q'
        clear ht1
        go_wp2_with fail
        go_quiet (fail)
        go_wp2_with fail
        refine (hc _ ht hpl).mono ?_
        rintro e w2 (⟨rfl, hj, _⟩ | ⟨rfl, p, hp, hx⟩)
        · go_wp2_with fail
          go_end0
          exact ⟨⟨_, rfl⟩, .inl (by rw [← hpl]; simpa using hj)⟩
        · go_wp2_with fail
          go_end0
          exact ⟨⟨_, rfl⟩, .inr ⟨p, by rw [← hpl]; exact hp, by simpa using hx⟩⟩
end Go.Proofs.Ytjjkdmngmopjbaa

namespace Go.Proofs.Ytjjkdmngmopjbaa
open Go.RowKit Go.Shelf
/-- a leaf that stands there -/
abbrev LfT (wd : Int) (w : World) (B : Nat) := { x : Nat × Ent // TrR wd w B (.leaf x.2.1 x.2.2) x.1 }
def encL {wd : Int} {w : World} {B : Nat} (x : LfT wd w B) : Array Value := #[.pointer (some ⟨x.1.1, 0, none⟩)]
def entsOf {wd : Int} {w : World} {B : Nat} (l : List (LfT wd w B)) : List Ent := l.map fun x => x.1.2
theorem grown_drewN (W : World) (d : Nat) : W.grownBy (W.drewN d) none := ⟨rfl, rfl, rfl, Nat.le_refl _, fun _ _ _ => rfl⟩
theorem KeepT.of_below {w W : World} (h : Below w.heap.size w W) : KeepT w W := fun _ _ _ _ _ hb => hb.below h hb.lt
theorem from_stops (wd : Int) (k : Key) (t : Option Tr) (top : Option Addr) (n Bt Bp B : Nat) (w : World) (hk : k.length ≤ 1000000000) (hlow : ∀ u, t = some u → lowT u) (hok : Tr.ook t)
    (hBt : Blk w Bt 53 #[.int .i64 wd, .pointer top]) (hBp : Blk w Bp 9 #[.string (bs k)]) (ht : OTrR wd w B t top) :
    SeqStopsK Fence.wide n Try.prog 108 #[.pointer (some ⟨Bt, 0, none⟩), .pointer (some ⟨Bp, 0, none⟩)] (encL (wd := wd) (w := w) (B := B)) KeepT (fun xs => entsOf xs = preL k (Tr.oitems t)) (fun pre => entsOf pre <+: preL k (Tr.oitems t)) (preL k (Tr.oitems t)).length w := by
  intro l J Jx W hW hJ hJx hY h0
  have hkw : KeepT w W := KeepT.of_below hW
  have hJd : ∀ (es : List Ent) W1 d, (∃ pre : List (LfT wd w B), entsOf pre = es ∧ J pre W1) → (∃ pre : List (LfT wd w B), entsOf pre = es ∧ J pre (W1.drewN d)) := fun es W1 d ⟨pre, he, hj⟩ => ⟨pre, he, hJ pre W1 _ none hj (grown_drewN _ _) (fun r e => by cases e)⟩
  have hJa : ∀ (es : List Ent) W1 o, (∃ pre : List (LfT wd w B), entsOf pre = es ∧ J pre W1) → (∃ pre : List (LfT wd w B), entsOf pre = es ∧ J pre (W1.alloc o)) := fun es W1 o ⟨pre, he, hj⟩ => ⟨pre, he, hJ pre W1 _ none hj (World.grownBy_alloc W1 o none) (fun r e => by cases e)⟩
  have hY2 : ∀ m (es : List Ent) (q : Nat) (x : Ent) W1, TrR wd w B (.leaf x.1 x.2) q → (∃ pre : List (LfT wd w B), entsOf pre = es ∧ J pre W1) → KeepT w W1 → es.length < (preL k (Tr.oitems t)).length → YieldAt Fence.wide m Try.prog l #[.pointer (some ⟨q, 0, none⟩)] W1 fun e W' =>
      (e = .returned (.bool true) ∧ (∃ pre : List (LfT wd w B), entsOf pre = es ++ [x] ∧ J pre W') ∧ KeepT W1 W') ∨ (e = .returned (.bool false) ∧ (∃ pre : List (LfT wd w B), entsOf pre = es ++ [x] ∧ Jx pre W')) := by
    rintro m es q x W1 hl ⟨pre, rfl, hj⟩ _ hlt
    refine yieldAt_any rfl m (YieldAt.mono (hY pre ⟨(q, x), hl⟩ W1 hj (by simpa [entsOf] using hlt)) fun e W' h => ?_)
    rcases h with ⟨he, h1, h2⟩ | ⟨he, h1⟩
    · exact .inl ⟨he, ⟨_, by simp [entsOf], h1⟩, h2⟩
    · exact .inr ⟨he, ⟨_, by simp [entsOf], h1⟩⟩
  have hBt' := hkw _ _ _ (by decide) (by decide) hBt
  have hBp' := hkw _ _ _ (by decide) (by decide) hBp
  refine callsIn_wide.2 (Calls.mono (R := FromR (fun es W1 => ∃ pre : List (LfT wd w B), entsOf pre = es ∧ J pre W1) (fun es W1 => ∃ pre : List (LfT wd w B), entsOf pre = es ∧ Jx pre W1) (preL k (Tr.oitems t))) ?_ ?_)
  · cases t with
    | none =>
      obtain rfl : top = none := ht
      exact from1No_any wd k l Bt Bp _ _ hk hJd hJa W hBt' ⟨[], rfl, h0⟩
    | some t =>
      obtain ⟨q, rfl, hq⟩ := ht
      exact from1_any wd k t q l Bt Bp B _ w _ _ hk (hlow t rfl) hok hJd hJa hY2 W hq hkw (Nat.le_refl _) hBt' hBp' ⟨[], rfl, h0⟩
  · rintro e W' ⟨hv, ⟨pre, he, hj⟩ | ⟨p, hp, pre, he, hx⟩⟩
    · exact ⟨hv, .inl ⟨pre, he, hj⟩⟩
    · exact ⟨hv, .inr ⟨pre, by show entsOf pre <+: _; rw [he]; exact hp, hx⟩⟩
set_option maxRecDepth 100000 in
theorem from_any (wd : Int) (k : Key) (top : Option Addr) (w : World) :
    Calls Try.prog 64 #[treeV wd top, .string (bs k)] w fun e w' => e = .returned (.func (.func 108) #[] #[.pointer (some ⟨w.heap.size, 0, none⟩), .pointer (some ⟨w.heap.size + 1, 0, none⟩)]) ∧ w' = (w.alloc (.cells #[.int .i64 wd, .pointer top] 53)).alloc (.cells #[.string (bs k)] 9) := by
  have hmf : ∀ (fn : Fn) (first cap : Array Value) (w : World), (Instr.makeFunc fn first cap).run Try.prog w = .ok (.func fn first cap) w := fun _ _ _ _ => rfl
  unfold treeV
  go_enter Try.func64, Try.ntmps64
  go_wp2_with fail
  go_ret
  exact ⟨rfl, rfl⟩
end Go.Proofs.Ytjjkdmngmopjbaa
