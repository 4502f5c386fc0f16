/- Bits of keys, by package trie. -/
import Derived.Test.YtkcnoljjilhpoaaProg
import Derived.Test.YtkcnoljjilhpoaaTrie0
import Derived.Test.YtkcnoljjilhpoaaTri2
namespace Go.Proofs.Ytkcnoljjilhpoaa
open Go.RowKit
def bitN (k : Key) (p : Nat) : Int := if bitB k p then 1 else 0
theorem bitN_eq {a b : Key} {p q : Nat} : bitN a p = bitN b q ↔ bitB a p = bitB b q := by
  unfold bitN
  cases bitB a p <;> cases bitB b q <;> simp
theorem and_one_i64 (a : Nat) (ha : a < 1000000) : bits .and .i64 (a : Int) 1 = ((a % 2 : Nat) : Int) := by
  have h1 : (BitVec.ofInt 64 (a : Int)).toNat = a := by
    rw [BitVec.ofInt_natCast, BitVec.toNat_ofNat]; exact Nat.mod_eq_of_lt (by omega)
  have h2 : (BitVec.ofInt 64 ((1 : Nat) : Int)).toNat = 1 := by
    rw [BitVec.ofInt_natCast, BitVec.toNat_ofNat]
  show IntKind.i64.wrap ((BitVec.ofInt 64 (a : Int) &&& BitVec.ofInt 64 ((1 : Nat) : Int)).toNat : Int) = _
  rw [BitVec.toNat_and, h1, h2, Nat.and_one_is_mod]
  exact IntWalk.i64_in _ (by omega)
theorem bit_value (x : UInt8) (n : Nat) : bits .and .i64 (wrap64 ((x.toNat : Int) / 2 ^ n)) 1 = if x.toNat.testBit n then 1 else 0 := by
  have hx : x.toNat < 256 := x.toNat_lt
  have hd : x.toNat / 2 ^ n ≤ x.toNat := Nat.div_le_self _ _
  have e : ((x.toNat : Int) / 2 ^ n) = ((x.toNat / 2 ^ n : Nat) : Int) := by simp
  rw [e, Nat.testBit_eq_decide_div_mod_eq]
  generalize x.toNat / 2 ^ n = d at *
  rw [← IntWalk.i64_left, IntWalk.i64_in _ (by omega), and_one_i64 _ (by omega)]
  have h2 := Nat.mod_two_eq_zero_or_one d
  rcases h2 with h | h <;> rw [h] <;> simp
set_option maxRecDepth 100000 in
theorem bit_any (k : Key) (p : Nat) (w : World) (hk : k.length ≤ 1000000000) (hp : p ≤ 1000000000000) :
    Calls Try.prog 101 #[.string (bs k), .int .i64 (p : Int)] w fun e w' => e = .returned (.int .i64 (bitN k p)) ∧ w = w' := by
  have hq : (p : Int).tdiv 9 = ((p / 9 : Nat) : Int) := by rw [Int.tdiv_eq_ediv_of_nonneg (by omega)]; omega
  have hq2 : IntKind.i64.wrap ((p / 9 : Nat) : Int) = ((p / 9 : Nat) : Int) := IntWalk.i64_in _ (by omega)
  have hr : (p : Int).tmod 9 = ((p % 9 : Nat) : Int) := by rw [Int.tmod_eq_emod_of_nonneg (by omega)]; omega
  have hr2 : IntKind.i64.wrap ((p % 9 : Nat) : Int) = ((p % 9 : Nat) : Int) := IntWalk.i64_in _ (by omega)
  have h9 : p % 9 < 9 := Nat.mod_lt _ (by omega)
  have HO := Lib.hid (fun h => bitB_out k p h)
  have H1 := Lib.hid (fun h g => bitB_one k p h g)
  have HI := Lib.hid (fun h g => bitB_in k p h g)
  unfold bitN
  generalize bitB k p = b at *
  generalize hP : (p : Int) = P at *
  have hPd : P.tdiv 9 = ((p / 9 : Nat) : Int) := hq
  generalize p / 9 = i at *
  generalize p % 9 = j at *
  by_cases hi : k.length ≤ i
  · obtain rfl := HO.out hi
    have hii : decide ((k.length : Int) ≤ (i : Int)) = true := decide_eq_true (by omega)
    go_enter Try.func101, Try.ntmps101
    go_wp2_with fail
    go_ret
    exact ⟨rfl, rfl⟩
  · have hii : decide ((k.length : Int) ≤ (i : Int)) = false := decide_eq_false (by omega)
    have hil : i < k.length := by omega
    by_cases hj : j = 0
    · subst hj
      obtain rfl := H1.out hil rfl
      go_enter Try.func101, Try.ntmps101
      go_wp2_with fail
      go_ret
      exact ⟨rfl, rfl⟩
    · have hb := HI.out hil hj
      have hj0 : ((j : Int) == 0) = false := beq_eq_false_iff_ne.2 (by omega)
      have h8 : IntKind.i64.wrap (8 - (j : Int)) = 8 - (j : Int) := IntWalk.i64_in _ (by omega)
      have HV := Lib.hid (bit_value k[i] (8 - j))
      obtain ⟨V, hV⟩ : ∃ V : Int, V = if b then 1 else 0 := ⟨_, rfl⟩
      rw [← hV]
      have HV2 : Hid (bits .and .i64 (wrap64 ((k[i].toNat : Int) / 2 ^ (8 - j))) 1 = V) := by show _ = _; rw [HV.out, hV, hb]
      clear hV hb HV HO H1 HI
      go_enter Try.func101, Try.ntmps101
      go_wp2_with fail
      go_ret
      exact ⟨ret_int HV2.out, rfl⟩
/-! ### where two keys part -/
theorem bitN_cases (k : Key) (p : Nat) : bitN k p = 0 ∨ bitN k p = 1 := by unfold bitN; cases bitB k p <;> simp
set_option maxRecDepth 100000 in
theorem parts_any (a b : Key) (p : Nat) (w : World) (ha : a.length ≤ 1000000000) (hb : b.length ≤ 1000000000) (h : Agree a b p) (hd : bitB a p ≠ bitB b p) (hp : p ≤ 100000000000) :
    Calls Try.prog 89 #[.string (bs a), .string (bs b)] w fun e w' => e = .returned (.int .i64 (p : Int)) ∧ w = w' := by
  have HG := Lib.hid h
  have HD := Lib.hid hd
  clear h hd
  go_enter Try.func89, Try.ntmps89
  go_wp2_with fail
  go_loop [5] (fun x => ∃ q : Nat, x = .int .i64 (q : Int) ∧ q ≤ p) (fun x => p - (intOf x).toNat)
  case atStart => exact ⟨0, rfl, by omega⟩
  case round =>
    obtain ⟨q, rfl, hq⟩ := hrel
    by_cases he : q = p
    · subst he
      have hne : (bitN a q == bitN b q) = false := beq_eq_false_iff_ne.2 fun e => HD.out (bitN_eq.mp e)
      generalize hx : bitN a q = x at *
      generalize hy : bitN b q = y at *
      go_wp2_with fail
      refine (bit_any a q w ha (by omega)).mono ?_
      rintro e w1 ⟨rfl, rfl⟩
      rw [hx]
      go_wp2_with fail
      refine (bit_any b q w hb (by omega)).mono ?_
      rintro e w1 ⟨rfl, rfl⟩
      rw [hy]
      go_wp2_with fail
      go_ret
      exact ⟨rfl, rfl⟩
    · have hlt : q < p := by omega
      have hxy : bitN a q = bitN b q := bitN_eq.mpr (HG.out q hlt)
      generalize hx : bitN a q = x at *
      have hy : bitN b q = x := hxy.symm
      clear hxy
      have hqw : IntKind.i64.wrap ((q : Int) + 1) = ((q + 1 : Nat) : Int) := by rw [IntWalk.i64_in _ (by omega)]; omega
      go_wp2_with fail
      refine (bit_any a q w ha (by omega)).mono ?_
      rintro e w1 ⟨rfl, rfl⟩
      rw [hx]
      go_wp2_with fail
      refine (bit_any b q w hb (by omega)).mono ?_
      rintro e w1 ⟨rfl, rfl⟩
      rw [hy]
      go_wp2_with fail
      go_round
      case rel => exact ⟨q + 1, by go_num, by omega⟩
      case measure => simp [intOf]; omega
end Go.Proofs.Ytkcnoljjilhpoaa
