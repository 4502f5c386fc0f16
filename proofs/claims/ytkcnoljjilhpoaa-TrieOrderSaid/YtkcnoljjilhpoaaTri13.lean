/- Tries in memory, by package trie: the iterator of from. -/
import Derived.Test.YtkcnoljjilhpoaaProg
import Derived.Test.YtkcnoljjilhpoaaTri12
import Derived.Deep.QuietTactic
import Derived.BigQuiet
namespace Go.Proofs.Ytkcnoljjilhpoaa
open Go.RowKit Go.Shelf
set_option maxRecDepth 100000 in
theorem allNil_any (f : Value) (W : World) :
    Calls Try.prog 146 #[.pointer none, f] W fun e W' => e = .returned (.bool true) ∧ W' = W := by
  go_enter Try.func146, Try.ntmps146
  go_wp2_with fail
  go_ret
  exact ⟨rfl, rfl⟩
theorem KeepT.drewN {A B : World} (h : KeepT A B) (d : Nat) : KeepT A (B.drewN d) := fun b t cs h1 h2 h3 => (h b t cs h1 h2 h3).drewN d
/-- what comes out of the iterator -/
def FromR (J Jx : List Ent → World → Prop) (l : List Ent) (e : Ending) (W' : World) : Prop := (∃ v, e = .returned v) ∧ (J l W' ∨ ∃ p, p <+: l ∧ Jx p W')
set_option maxRecDepth 100000 in
set_option maxHeartbeats 2000000 in
theorem from1No_any (wd : Int) (k : Key) (l Bt Bp : Nat) (J Jx : List Ent → World → Prop) (hk : k.length ≤ 1000000000)
    (hJd : ∀ es W d, J es W → J es (W.drewN d)) (hJa : ∀ es W o, J es W → J es (W.alloc o)) (W : World)
    (hBt : Blk W Bt 37 #[.int .i64 wd, .pointer none]) (h0 : J [] W) :
    Calls Try.prog 145 #[.func (.yield l) #[] #[], .pointer (some ⟨Bt, 0, none⟩), .pointer (some ⟨Bp, 0, none⟩)] W (FromR J Jx []) := by
  have hmf : ∀ (fn : Fn) (first cap : Array Value) (w : World), (Instr.makeFunc fn first cap).run Try.prog w = .ok (.func fn first cap) w := fun _ _ _ _ => rfl
  have hB1 : Blk (W.alloc (.cells #[.func (.yield l) #[] #[]] 218)) Bt 37 #[.int .i64 wd, .pointer none] := hBt.alloc _
  have HJ := Lib.hid (fun d => hJd [] _ d (hJa [] W (.cells #[.func (.yield l) #[] #[]] 218) h0))
  generalize hW1 : W.alloc (.cells #[.func (.yield l) #[] #[]] 218) = W1 at *
  have c1 := (hB1.cell 1).trans (show _ = some (Value.pointer none) from rfl)
  clear hJd hJa h0 hBt
  go_enter Try.func145, Try.ntmps145
  go_wp2_with fail
  go_loopw [4] (fun x wr => x = .pointer none ∧ wr = W1) (fun _ _ => 0)
  case atStart => exact ⟨rfl, rfl⟩
  case round =>
    obtain ⟨rfl, rfl⟩ := hrel
    go_wp2_with fail
    go_quiet (fail)
    go_wp2_with fail
    refine (allNil_any _ _).mono ?_
    rintro e w2 ⟨rfl, rfl⟩
    go_wp2_with fail
    go_end0
    exact ⟨⟨_, rfl⟩, .inl (HJ.out _)⟩
set_option maxRecDepth 100000 in
set_option maxHeartbeats 4000000 in
theorem from1_any (wd : Int) (k : Key) (t : Tr) (q l Bt Bp B N : Nat) (w0 : World) (J Jx : List Ent → World → Prop) (hk : k.length ≤ 1000000000) (hlow : lowT t) (hok : t.ok)
    (hJd : ∀ es W d, J es W → J es (W.drewN d)) (hJa : ∀ es W o, J es W → J es (W.alloc o))
    (hY : ∀ m es (q : Nat) (x : Ent) W, TrR wd w0 B (.leaf x.1 x.2) q → J es W → KeepT w0 W → es.length < N → YieldAt Fence.wide m Try.prog l #[.pointer (some ⟨q, 0, none⟩)] W fun e W' =>
      (e = .returned (.bool true) ∧ J (es ++ [x]) W' ∧ KeepT W W') ∨ (e = .returned (.bool false) ∧ Jx (es ++ [x]) W'))
    (W : World) (ht : TrR wd w0 B t q) (hkw : KeepT w0 W) (hN : (preL k t.items).length ≤ N)
    (hBt : Blk W Bt 37 #[.int .i64 wd, .pointer (some ⟨q, 0, none⟩)]) (hBp : Blk W Bp 9 #[.string (bs k)]) (h0 : J [] W) :
    Calls Try.prog 145 #[.func (.yield l) #[] #[], .pointer (some ⟨Bt, 0, none⟩), .pointer (some ⟨Bp, 0, none⟩)] W (FromR J Jx (preL k t.items)) := by
  have hmf : ∀ (fn : Fn) (first cap : Array Value) (w : World), (Instr.makeFunc fn first cap).run Try.prog w = .ok (.func fn first cap) w := fun _ _ _ _ => rfl
  have hB1 : Blk (W.alloc (.cells #[.func (.yield l) #[] #[]] 218)) Bt 37 #[.int .i64 wd, .pointer (some ⟨q, 0, none⟩)] := hBt.alloc _
  have hP1 : Blk (W.alloc (.cells #[.func (.yield l) #[] #[]] 218)) Bp 9 #[.string (bs k)] := hBp.alloc _
  have hY1 : Blk (W.alloc (.cells #[.func (.yield l) #[] #[]] 218)) W.heap.size 218 #[.func (.yield l) #[] #[]] := Blk.new _ _ _
  have HJ := Lib.hid (fun d => hJd [] _ d (hJa [] W (.cells #[.func (.yield l) #[] #[]] 218) h0))
  have hk1 := hkw.alloc (.cells #[.func (.yield l) #[] #[]] 218)
  generalize hW1 : W.alloc (.cells #[.func (.yield l) #[] #[]] 218) = W1 at *
  have HA := Lib.hid (fun (t' : Tr) (q' : Nat) d (h1 : TrR wd w0 B t' q') (h2 : preL k t'.items = preL k t.items) => callsIn_wide.1 (all_in wd l Bp W.heap.size B N k w0 J Jx hJd hY t' 1 q' [] (W1.drewN d) h1 (hk1.drewN d) (hP1.drewN d) (hY1.drewN d) (HJ.out d) (by rw [h2]; simpa using hN)))
  have c1 := (hB1.cell 1).trans (show _ = some (Value.pointer (some ⟨q, 0, none⟩)) from rfl)
  have cp := (hP1.cell 0).trans (show _ = some (Value.string (bs k)) from rfl)
  have hR : Hid (∃ t' : Tr, TrR wd w0 B t' q ∧ lowT t' ∧ t'.ok ∧ preL k t'.items = preL k t.items) := ⟨t, ht, hlow, hok, rfl⟩
  clear hJd hJa h0 hBt hBp hY hY1 hkw hlow hok ht
  go_enter Try.func145, Try.ntmps145
  go_wp2_with fail
  go_loopw [4] (fun x wr => ∃ (d q' : Nat), x = .pointer (some ⟨q', 0, none⟩) ∧ wr = W1.drewN d ∧ Hid (∃ t' : Tr, TrR wd w0 B t' q' ∧ lowT t' ∧ t'.ok ∧ preL k t'.items = preL k t.items)) (fun x _ => ptrNo x)
  case atStart => exact ⟨0, q, rfl, rfl, hR⟩
  case round =>
    clear hR
    obtain ⟨d, q', rfl, rfl, t', ht, hlow, hok, hpl⟩ := hrel
    have ht1 := ht.keepT hk1
    have hpos := ht1.pos
    have hm1 : IntKind.i64.wrap (9 * (k.length : Int)) = ((9 * k.length : Nat) : Int) := by rw [IntWalk.i64_in _ (by omega)]; omega
    have hm2 : wrap64 (9 * (k.length : Int)) = ((9 * k.length : Nat) : Int) := by rw [← IntWalk.i64_left]; exact hm1
    cases t' with
    | leaf a v =>
      have hc := HA.out (.leaf a v) q'
      unfold posT at hpos
      clear ht1
      go_wp2_with fail
      go_quiet (fail)
      go_wp2_with fail
      refine (hc _ ht hpl).mono ?_
      rintro e w2 (⟨rfl, hj, _⟩ | ⟨rfl, p, hp, hx⟩)
      · go_wp2_with fail
        go_end0
        exact ⟨⟨_, rfl⟩, .inl (by rw [← hpl]; simpa using hj)⟩
      · go_wp2_with fail
        go_end0
        exact ⟨⟨_, rfl⟩, .inr ⟨p, by rw [← hpl]; exact hp, by simpa using hx⟩⟩
    | fork p tl tr =>
      have hge : decide ((0 : Int) ≤ (p : Int)) = true := decide_eq_true (by omega)
      unfold posT at hpos
      by_cases hlt : p < 9 * k.length
      · have hlti : decide ((p : Int) < ((9 * k.length : Nat) : Int)) = true := decide_eq_true (by omega)
        obtain ⟨hq1, a, b, hblk, hl, hr⟩ := ht
        obtain ⟨hq1', a', b', hblk1, _, _⟩ := ht1
        have h3 := (hblk1.cell 3).trans (show _ = some (Value.pointer (some ⟨a', 0, none⟩)) from rfl)
        have h4 := (hblk1.cell 4).trans (show _ = some (Value.pointer (some ⟨b', 0, none⟩)) from rfl)
        obtain ⟨rfl, rfl⟩ : a = a' ∧ b = b' := by
          have := hk1 _ _ _ (by decide) (by decide) hblk
          unfold Blk at this hblk1
          rw [this] at hblk1
          simp only [Option.some.injEq, Obj.cells.injEq, Array.mk.injEq, List.cons.injEq, Value.pointer.injEq, Addr.mk.injEq] at hblk1
          exact ⟨hblk1.1.2.2.2.1.1, hblk1.1.2.2.2.2.1.1⟩
        have hnext : Hid (∃ t' : Tr, TrR wd w0 B t' (if bitB k p then b else a) ∧ lowT t' ∧ t'.ok ∧ preL k t'.items = preL k t.items) := by
          show ∃ _, _
          rw [← hpl]
          have hs := Tr.sub_pre k (.fork p tl tr) hok
          rw [show (Tr.fork p tl tr).sub k = if p < 9 * k.length then (if bitB k p then tr.sub k else tl.sub k) else .fork p tl tr from rfl, if_pos hlt] at hs
          split
          · rename_i hb
            rw [if_pos hb] at hs
            exact ⟨tr, hr.more (by omega), hlow.2.2, hok.2.1, by rw [hs, Tr.sub_pre k tr hok.2.1]⟩
          · rename_i hb
            rw [if_neg hb] at hs
            exact ⟨tl, hl.more (by omega), hlow.2.1, hok.1, by rw [hs, Tr.sub_pre k tl hok.1]⟩
        have hlt2 : (if bitB k p then b else a) < q' := by
          have := hl.lt
          have := hr.lt
          split <;> omega
        have hsd := fun n => side_any k p a b q' (W1.drewN n) hk hlow.1 hpos h3 h4
        generalize (if bitB k p then b else a) = c at *
        clear hblk hblk1 hl hr hlow hok hpl HA
        go_wp2_with fail
        go_quiet (fail)
        go_wp2_with fail
        refine (hsd _).mono ?_
        rintro e w2 ⟨rfl, rfl⟩
        go_wp2_with fail
        go_roundw
        case rel => exact ⟨_, c, rfl, rfl, hnext⟩
        case measure => simpa [ptrNo] using hlt2
      · have hlti : decide ((p : Int) < ((9 * k.length : Nat) : Int)) = false := decide_eq_false (by omega)
        have hc := HA.out (.fork p tl tr) q'
        clear ht1
        go_wp2_with fail
        go_quiet (fail)
        go_wp2_with fail
        refine (hc _ ht hpl).mono ?_
        rintro e w2 (⟨rfl, hj, _⟩ | ⟨rfl, p, hp, hx⟩)
        · go_wp2_with fail
          go_end0
          exact ⟨⟨_, rfl⟩, .inl (by rw [← hpl]; simpa using hj)⟩
        · go_wp2_with fail
          go_end0
          exact ⟨⟨_, rfl⟩, .inr ⟨p, by rw [← hpl]; exact hp, by simpa using hx⟩⟩
end Go.Proofs.Ytkcnoljjilhpoaa
