/- Of the texts Wal2. -/
import Derived.Test.YtjhaafbbdgjagaaGreatG15
import Derived.Test.YtjhaafbbdgjagaaGreatG18
set_option linter.unusedSimpArgs false
set_option linter.unusedVariables false
namespace Go.Proofs.YtjhaafbbdgjagaaGreat
open Go Go.RowKit Vc
set_option maxRecDepth 100000
def frameL (s : List UInt8) : List UInt8 := be s.length 4 ++ be (ofS 8 0 [s]) 8 ++ s
theorem frameL_len (s : List UInt8) : (frameL s).length = 12 + s.length := by
 unfold frameL; rw [List.length_append, List.length_append, be_len, be_len]
theorem ofS8_bd (ps : List (List UInt8)) : 0 ≤ ofS 8 0 ps ∧ ofS 8 0 ps < 18446744073709551616 := by
 have h := div256_bd (lastS (finS (finS (headS 0 ps)))) (8 - clampW 8).toNat (lastS_bd _); unfold ofS; constructor
 ·exact h.1
 ·have := h.2; omega
def OfC : Ctr where
 gh := 1
 pre us w := ∃ (A : Option Addr) (c : Nat) (s : List UInt8), us = [.i 8, .i 0, .p A, .n 1, .n c, .g s] ∧ Strs w w.heap.size A [s] ∧ s.length ≤ maxLen
 post us os := ∀ s : List UInt8, us.getLast? = some (.g s) → os = [.i (ofS 8 0 [s])]
 fact _ _ _ := True
theorem g_inj {α : Type} {x y : α} (h : some (U.g x) = some (U.g y)) : x = y := by
 injection h with h
 cases h; rfl
theorem of_keeps : Keeps Tryz.prog 146 OfC := by
 intro fn' pin' pout' h1 h2 h3 us w _ hp; rw [Tryz.func146] at h1; injection h1 with h1; subst h1
 obtain rfl : [Sh.one (.int .i64), .one (.int .i64), .one .slc] = pin' := Option.some.inj h2; obtain rfl : [Sh.one (.int .u64)] = pout' := Option.some.inj h3; obtain ⟨A, c, s, rfl, hr, hl⟩ := hp; refine (of_any 8 0 [s] A c w.heap.size w hr (Nat.le_refl _) (show 1 ≤ maxLen by decide) (fun p hp => ?_)).mono ?_
 ·rw [List.mem_singleton] at hp; rw [hp]; exact hl
 rintro e w' ⟨rfl, hb⟩; exact ⟨[.i _], rfl, rfl, fun s' h => by obtain rfl := g_inj h; rfl, fun _ _ _ => trivial, hb⟩
def EightC : Ctr where
 gh := 0
 pre us _ := ∃ n : Int, us = [.i n] ∧ 0 ≤ n ∧ n < 18446744073709551616
 post us os := ∀ n : Int, us = [.i n] → os = [.s (bs (be n 8))]
 fact _ _ _ := True
theorem eight_keeps : Keeps Tryz.prog 145 EightC := by
 intro fn' pin' pout' h1 h2 h3 us w _ hp; rw [Tryz.func145] at h1; injection h1 with h1; subst h1
 obtain rfl : [Sh.one (.int .u64)] = pin' := Option.some.inj h2; obtain rfl : [Sh.one .str] = pout' := Option.some.inj h3; obtain ⟨n, rfl, h0, h1⟩ := hp; refine (eight_any n w h0 h1).mono ?_; rintro e w' ⟨rfl, hb⟩; exact ⟨[.s _], rfl, rfl, fun n' h => by injection h with h; injection h with h; subst h; rfl, fun _ _ _ => trivial, hb⟩
def FrameC : Ctr where
 gh := 0
 pre us _ := ∃ s : ByteArray, us = [.s s] ∧ s.size ≤ 10000000000000
 post us os := ∀ s : ByteArray, us = [.s s] → ∃ A c, os = [.p A, .n (frameL s.data.toList).length, .n c]
 fact us os w := ∀ (s : ByteArray) A n c, us = [.s s] → os = [.p A, .n n, .n c] → Rd w w.heap.size 1 A n (bV (frameL s.data.toList))
theorem u8_of_nat (k : Nat) : ((UInt8.ofNat k).toNat : Int) = k % 256 := by simp
theorem be4V (n : Nat) : [Value.int .u8 (IntKind.wrap .u8 (shrI .i64 (n : Int) 24))] ++ ([Value.int .u8 (IntKind.wrap .u8 (shrI .i64 (n : Int) 16))] ++ ([Value.int .u8 (IntKind.wrap .u8 (shrI .i64 (n : Int) 8))] ++ [Value.int .u8 (IntKind.wrap .u8 (n : Int))])) = bV (be n 4) := by
 have e : ∀ k : Int, 0 ≤ k → ((UInt8.ofNat (k % 256).toNat).toNat : Int) = IntKind.wrap .u8 k := by
  intro k hk; rw [IntKind.wrap_u8, u8_of_nat]; omega
 have s : ∀ j : Nat, j ≤ 64 → shrI .i64 (n : Int) j = (n : Int) / 2 ^ j := by
  intro j hj; unfold shrI; rw [Int.toNat_natCast, show min j (IntKind.bits .i64) = j from Nat.min_eq_left hj, Int.fdiv_eq_ediv_of_nonneg _ (Int.le_of_lt (Int.pow_pos (by decide)))]
 have d : ∀ j : Int, 0 < j → 0 ≤ (n : Int) / j := fun j hj => Int.ediv_nonneg (by omega) (by omega)
 simp only [bV, be, List.map_cons, List.map_nil, List.cons_append, List.nil_append]; rw [e _ (d _ (by decide)), e _ (d _ (by decide)), e _ (d _ (by decide)), e _ (d _ (by decide))]; have s3 := s 24 (by decide); have s2 := s 16 (by decide); have s1 := s 8 (by decide); rw [show ((24 : Nat) : Int) = 24 from rfl] at s3; rw [show ((16 : Nat) : Int) = 16 from rfl] at s2; rw [show ((8 : Nat) : Int) = 8 from rfl] at s1; rw [s3, s2, s1]; rw [show (256 : Int) ^ 3 = 2 ^ 24 from rfl, show (256 : Int) ^ 2 = 2 ^ 16 from rfl, show (256 : Int) ^ 1 = 2 ^ 8 from rfl, show (256 : Int) ^ 0 = 1 from rfl, Int.ediv_one]
def cfg_frame : Cfg := { con := [(146, 1), (145, 0)] }
def vcd_frame : { v : VC // vcOf Tryz.prog cfg_frame 66 = v } := by refine ⟨?v, ?h⟩; rotate_left; conv => lhs; reduce
theorem vce_frame : vcOf Tryz.prog cfg_frame 66 = vcd_frame.1 := vcd_frame.2
theorem frame_keeps : Keeps Tryz.prog 66 FrameC := by
 refine keeps_v Tryz.func66 cfg_frame vce_frame [.s] FrameC [(146, OfC), (145, EightC)] ⟨of_keeps, eight_keeps, trivial⟩ (by kernel_rfl) (fun _ _ _ h _ => h) ?_; intro s w hp; refine ⟨[], vc_use ?Q ?h ?g⟩
 case h => intro O C s I b; conv => lhs; reduce
 dsimp only [std]; simp only [ctrOf, invOf, List.lookup, Nat.reduceBEq, Option.getD_some, Int.reduceOfNat, Int.reduceNegSucc]; obtain ⟨s', he, hs⟩ := hp; injection he with he; injection he with he; subst he
 obtain ⟨l, rfl⟩ := bs_ex s; rw [bs_size] at hs; have hlen : 12 + l.length = (frameL l).length := (frameL_len l).symm; intro x1 x2; refine ⟨List UInt8, l, fun w hw => ⟨x1, x2, l, rfl, Rd.of_own hw.2, by unfold maxLen; omega⟩, ?_⟩; intro x4 h4; have h4 := h4 l rfl; injection h4 with h4; injection h4 with h4; subst h4
 refine ⟨fun w hw => ⟨_, rfl, ofS8_bd _⟩, ?_⟩; intro x5 h5; have h5 := h5 _ rfl; injection h5 with h5; injection h5 with h5; subst h5
 simp only [bs_size, be_len]; refine ⟨by omega, by omega, by omega, by omega, ?_⟩; intro x6 x7; refine ⟨fun s' he => ?_, fun w hw s' A n c he ho => ?_⟩
 ·injection he with he; injection he with he; subst he
  exact ⟨x6, x7, by rw [bs_data, ← hlen]⟩
 ·injection he with he; injection he with he; subst he
  simp only [List.cons.injEq, U.p.injEq, U.n.injEq, and_true] at ho; obtain ⟨rfl, rfl, rfl⟩ := ho; have hv : (([Value.int .u8 (IntKind.wrap .u8 (shrI .i64 ((l.length : Nat) : Int) 24))] ++ ([Value.int .u8 (IntKind.wrap .u8 (shrI .i64 ((l.length : Nat) : Int) 16))] ++ ([Value.int .u8 (IntKind.wrap .u8 (shrI .i64 ((l.length : Nat) : Int) 8))] ++ [Value.int .u8 (IntKind.wrap .u8 ((l.length : Nat) : Int))]))) ++ bytesV (bs (be (ofS 8 0 [l]) 8))) ++ bytesV (bs l) = bV (frameL l) := by
   rw [be4V]; show bV _ ++ bV _ ++ bV _ = _; rw [bV_app, bV_app]; rfl
  rw [bs_data, ← hv]; exact Rd.of_own hw.2
end Go.Proofs.YtjhaafbbdgjagaaGreat
