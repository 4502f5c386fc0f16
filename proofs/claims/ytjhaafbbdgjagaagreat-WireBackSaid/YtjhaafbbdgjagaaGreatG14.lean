/- Of the texts Gp0, Gp1. -/
import Derived.Test.YtjhaafbbdgjagaaGreatProg
import Derived.Test.YtjhaafbbdgjagaaGreatG13
set_option linter.unusedSimpArgs false
set_option linter.unusedVariables false
namespace Go.Proofs.YtjhaafbbdgjagaaGreat
open Go.RowKit Vc
abbrev Got (α : Type) := Except Int (α × ByteArray)
def pTake (n : Int) (s : ByteArray) : Got ByteArray := if (s.size : Int) < n then .error 1 else .ok (s.extract 0 n.toNat, s.extract n.toNat s.size)
def numOf (l : List UInt8) : Nat := l.foldl (fun n c => n * 256 + c.toNat) 0
def byteAt (s : ByteArray) (k : Nat) : Nat := (s.data.toList.getD k 0).toNat
def pUpTo (most : Int) (s : ByteArray) : Got Int :=
 match pTake 1 s with
 | .error e => .error e
 | .ok (k, s1) =>
  if 5 < byteAt k 0 then .error 2 else
  match pTake (byteAt k 0 : Int) s1 with
  | .error e => .error e
  | .ok (b, s2) => if 0 < b.size ∧ byteAt b 0 = 0 then .error 2 else if most < (numOf b.data.toList : Int) then .error 3 else .ok (numOf b.data.toList, s2)
def stopV (e : Int) : Value := .iface 205 (.int .i64 e)
def stopCh (e : Int) : List PanicEntry := [{ v := stopV e, recovered := false }]
def Small (s : ByteArray) : Prop := s.size ≤ 1000000000000
def rdC (pre : List U → Prop) (p : List U → Except Int (List U)) : Ctr where
 pre us _ := pre us
 post us os := p us = .ok os
 fact _ _ _ := True
 pan us ch := ∃ e, p us = .error e ∧ ch = stopCh e
def gI (r : Got Int) : Except Int (List U) := r.map fun r => [.i r.1, .s r.2]
def gB (r : Got Bool) : Except Int (List U) := r.map fun r => [.b r.1, .s r.2]
def gS (r : Got ByteArray) : Except Int (List U) := r.map fun r => [.s r.1, .s r.2]
theorem stepI {A : Prop} {P : Got Int} {R : Except Int (List U)} {K : Int → ByteArray → Prop} (h1 : ∀ e, P = .error e → R = .error e) (h2 : A) (h3 : ∀ x s, P = .ok (x, s) → K x s) :
  (∀ ch, (∃ e, gI P = .error e ∧ ch = stopCh e) → ∃ e, R = .error e ∧ ch = stopCh e) ∧ A ∧ ∀ (x : Int) (s : ByteArray), gI P = .ok [.i x, .s s] → K x s := by
 refine ⟨fun ch ⟨e, h, hc⟩ => ⟨e, h1 e ?_, hc⟩, h2, fun x s h => h3 x s ?_⟩
 ·cases P with
  | error e' => simpa [gI, Except.map] using h
  | ok r => simp [gI, Except.map] at h
 ·cases P with
  | error e' => simp [gI, Except.map] at h
  | ok r => obtain ⟨a, b⟩ := r; simpa [gI, Except.map] using h
theorem stepS {A : Prop} {P : Got ByteArray} {R : Except Int (List U)} {K : ByteArray → ByteArray → Prop} (h1 : ∀ e, P = .error e → R = .error e) (h2 : A) (h3 : ∀ x s, P = .ok (x, s) → K x s) :
  (∀ ch, (∃ e, gS P = .error e ∧ ch = stopCh e) → ∃ e, R = .error e ∧ ch = stopCh e) ∧ A ∧ ∀ (x : ByteArray) (s : ByteArray), gS P = .ok [.s x, .s s] → K x s := by
 refine ⟨fun ch ⟨e, h, hc⟩ => ⟨e, h1 e ?_, hc⟩, h2, fun x s h => h3 x s ?_⟩
 ·cases P with
  | error e' => simpa [gS, Except.map] using h
  | ok r => simp [gS, Except.map] at h
 ·cases P with
  | error e' => simp [gS, Except.map] at h
  | ok r => obtain ⟨a, b⟩ := r; simpa [gS, Except.map] using h
theorem pTake_small {n : Int} {s x r : ByteArray} (h : pTake n s = .ok (x, r)) (hs : Small s) (h0 : 0 ≤ n) : Small x ∧ Small r ∧ (x.size : Int) = n := by
 unfold pTake at h; split at h
 ·cases h
 ·injection h with h; injection h with h1 h2; subst h1; subst h2
  unfold Small at *; simp only [ByteArray.size_extract]; omega
def takeP : List U → Prop
 | [.p _, .i n, .s s] => 0 ≤ n ∧ Small s
 | _ => False
def takeF : List U → Except Int (List U)
 | [.p _, .i n, .s s] => gS (pTake n s)
 | _ => .error 0
def PTakeS : Ctr := rdC takeP takeF
set_option maxRecDepth 100000
def cfg_ptake : Cfg := { mine := [(0, 208)] }
def vcd_ptake : { v : VC // vcOf Tryz.prog cfg_ptake 228 = v } := by refine ⟨?v, ?h⟩; rotate_left; conv => lhs; reduce
theorem vce_ptake : vcOf Tryz.prog cfg_ptake 228 = vcd_ptake.1 := vcd_ptake.2
theorem ptake_ok : KeepsL Tryz.prog 228 PTakeS cfg_ptake.mine := by
 refine keepsL_v Tryz.func228 cfg_ptake vce_ptake [.p, .i, .s] PTakeS [] trivial (by kernel_rfl) (fun _ _ _ h => h) ?_; intro x0 x1 x2 w hp; refine ⟨[], vc_use ?Q ?h ?g⟩
 case h => intro O C s I b; conv => lhs; reduce
 dsimp only [std]; obtain ⟨h0, hs⟩ : 0 ≤ x1 ∧ Small x2 := hp; simp only [PTakeS, rdC, takeF, gS, pTake]; refine ⟨fun h => ?_, fun h => ?_⟩
 ·exact ⟨1, by rw [if_pos h]; rfl, rfl⟩
 ·refine ⟨h0, by omega, by simp, by simp, ?_, fun _ _ => trivial⟩; rw [if_neg h]; rfl
theorem numOf_snoc (l : List UInt8) (c : UInt8) : numOf (l ++ [c]) = numOf l * 256 + c.toNat := by simp [numOf, List.foldl_append]
theorem numOf_take {l : List UInt8} {k : Nat} (h : k < l.length) : numOf (l.take (k + 1)) = numOf (l.take k) * 256 + (l.getD k 0).toNat := by
 rw [List.take_succ_eq_append_getElem h, numOf_snoc]; simp [List.getD_eq_getElem?_getD, h]
theorem numOf_lt : ∀ (k : Nat) (l : List UInt8), l.length = k → numOf l < 256 ^ k := by
 intro k
 induction k with
 | zero => intro l h; have : l = [] := List.eq_nil_of_length_eq_zero h; subst this; simp [numOf]
 | succ k ih =>
  intro l h; have hd : l = l.take k ++ [l.getD k 0] := by
   have := List.take_succ_eq_append_getElem (l := l) (i := k) (by omega); rw [show l.take (k + 1) = l from List.take_of_length_le (by omega)] at this; rw [List.getD_eq_getElem?_getD, List.getElem?_eq_getElem (by omega)]; exact this
  rw [hd, numOf_snoc]; have h1 := ih (l.take k) (by simp; omega); have h2 := (l.getD k 0).toNat_lt; rw [Nat.pow_succ]; omega
theorem or_byte (n c : Nat) (hc : c < 256) : n * 256 ||| c = n * 256 + c := by
 have := Nat.two_pow_add_eq_or_of_lt (i := 8) (b := c) (by omega) n; rw [show (2 : Nat) ^ 8 = 256 from rfl, Nat.mul_comm 256 n] at this; exact this.symm
theorem byte_lt (s : ByteArray) (k : Nat) : byteAt s k < 256 := (s.data.toList.getD k 0).toNat_lt
theorem or_i64 (n c : Nat) (hn : n < 1099511627776) (hc : c < 256) : bitsI .or .i64 (shlI .i64 (n : Int) 8) (IntKind.wrap .i64 (c : Int)) = ((n * 256 + c : Nat) : Int) := by
 have e1 : shlI .i64 (n : Int) 8 = ((n * 256 : Nat) : Int) := by
  unfold shlI; rw [show min (8 : Int).toNat IntKind.i64.bits = 8 from rfl, show ((2 : Int) ^ 8) = 256 from rfl, IntWalk.i64_in _ (by omega)]; omega
 have e2 : IntKind.wrap .i64 (c : Int) = (c : Int) := IntWalk.i64_in _ (by omega); rw [e1, e2]; show IntKind.wrap .i64 (((BitVec.ofInt 64 ((n * 256 : Nat) : Int) ||| BitVec.ofInt 64 (c : Int)).toNat : Nat) : Int) = _; have e3 : (BitVec.ofInt 64 ((n * 256 : Nat) : Int) ||| BitVec.ofInt 64 (c : Int)).toNat = n * 256 + c := by
  rw [BitVec.toNat_or, BitVec.ofInt_natCast, BitVec.ofInt_natCast, BitVec.toNat_ofNat, BitVec.toNat_ofNat, Nat.mod_eq_of_lt (by omega), Nat.mod_eq_of_lt (by omega), or_byte n c hc]
 rw [e3]; exact IntWalk.i64_in _ (by omega)
theorem or_u64 (n c : Nat) (hn : n * 256 < 18446744073709551616) (hc : c < 256) : bitsI .or .u64 (shlI .u64 (n : Int) 8) (IntKind.wrap .u64 (c : Int)) = ((n * 256 + c : Nat) : Int) := by
 have e1 : shlI .u64 (n : Int) 8 = ((n * 256 : Nat) : Int) := by
  unfold shlI; rw [show min (8 : Int).toNat IntKind.u64.bits = 8 from rfl, show ((2 : Int) ^ 8) = 256 from rfl, IntWalk.u64_in _ (by omega)]; omega
 have e2 : IntKind.wrap .u64 (c : Int) = (c : Int) := IntWalk.u64_in _ (by omega); rw [e1, e2]; show IntKind.wrap .u64 (((BitVec.ofInt 64 ((n * 256 : Nat) : Int) ||| BitVec.ofInt 64 (c : Int)).toNat : Nat) : Int) = _; have e3 : (BitVec.ofInt 64 ((n * 256 : Nat) : Int) ||| BitVec.ofInt 64 (c : Int)).toNat = n * 256 + c := by
  rw [BitVec.toNat_or, BitVec.ofInt_natCast, BitVec.ofInt_natCast, BitVec.toNat_ofNat, BitVec.toNat_ofNat, Nat.mod_eq_of_lt (by omega), Nat.mod_eq_of_lt (by omega), or_byte n c hc]
 rw [e3]; exact IntWalk.u64_in _ (by omega)
theorem size_list (s : ByteArray) : s.data.toList.length = s.size := Array.length_toList
def upInv : Inv where
 inv us := match us with
  | [.i n, .i k, .s b] => b.size ≤ 5 ∧ 0 ≤ k ∧ k ≤ b.size ∧ n = numOf (b.data.toList.take k.toNat) ∧ (0 < k → ¬ byteAt b 0 = 0)
  | _ => False
 mea us := match us with
  | [.i _, .i k, .s b] => ((b.size : Int) - k).toNat
  | _ => 0
def upToP : List U → Prop
 | [.p _, .i _, .s s] => Small s
 | _ => False
def upToF : List U → Except Int (List U)
 | [.p _, .i n, .s s] => gI (pUpTo n s)
 | _ => .error 0
def PUpToS : Ctr := rdC upToP upToF
def cfg_pupto : Cfg := { con := [(228, 0)], loops := [(6, { slots := [6, 21], extra := [.var 7] })], lents := [(228, [(0, 208)])], mine := [(0, 208)], pans := [228] }
def vcd_pupto : { v : VC // vcOf Tryz.prog cfg_pupto 138 = v } := by refine ⟨?v, ?h⟩; rotate_left; conv => lhs; reduce
theorem vce_pupto : vcOf Tryz.prog cfg_pupto 138 = vcd_pupto.1 := vcd_pupto.2
theorem pupto_ok : KeepsL Tryz.prog 138 PUpToS cfg_pupto.mine := by
 refine keepsL_v Tryz.func138 cfg_pupto vce_pupto [.p, .i, .s] PUpToS [(228, PTakeS)] ⟨ptake_ok, trivial⟩ (by kernel_rfl) (fun _ _ _ h => h) ?_; intro x0 x1 x2 w hp; refine ⟨[(6, upInv)], vc_use ?Q ?h ?g⟩
 case h => intro O C s I b; conv => lhs; reduce
 dsimp only [std]; simp only [ctrOf, invOf, List.lookup, Nat.reduceBEq, Option.getD_some, Int.reduceOfNat, Int.reduceNegSucc]; have hs : Small x2 := hp; simp only [PTakeS, PUpToS, rdC, takeF, upToF, upInv]; intro x3; refine stepS (fun e h => by simp only [gI, pUpTo, h]; rfl) (fun w hw => ⟨by decide, hs⟩) fun x4 x5 h1 => ?_
 obtain ⟨s1, s2, z1⟩ := pTake_small h1 hs (by decide); have hb := byte_lt x4 0; have hw : IntKind.wrap .i64 ((x4.data.toList.getD 0 0).toNat : Int) = (byteAt x4 0 : Int) := IntWalk.i64_in _ (by unfold byteAt at hb; omega); have hR : pUpTo x1 x2 = (if 5 < byteAt x4 0 then .error 2 else
  match pTake (byteAt x4 0 : Int) x5 with
  | .error e => .error e
  | .ok (b, s2) => if 0 < b.size ∧ byteAt b 0 = 0 then .error 2 else if x1 < (numOf b.data.toList : Int) then .error 3 else .ok (numOf b.data.toList, s2)) := by simp only [pUpTo, h1]
 rw [hR]; refine ⟨by omega, fun h5 => ?_, fun h5 => ?_⟩
 ·rw [hw] at h5; rw [if_pos (by omega)]; exact ⟨2, rfl, rfl⟩
 rw [hw] at h5 ⊢
 have h5' : ¬ 5 < byteAt x4 0 := by omega
 rw [if_neg h5']; intro x6; refine stepS (fun e h => by rw [h]; rfl) (fun w hw => ⟨by omega, s2⟩) fun x7 x8 h2 => ?_
 obtain ⟨s3, s4, z2⟩ := pTake_small h2 s2 (by omega); rw [h2]; dsimp only; intro x9 x10; refine ⟨⟨by omega, by decide, by omega, rfl, fun h => absurd h (by decide)⟩, fun _ _ => trivial, ?_⟩; rintro x11 x12 ⟨v1, v2, v3, v4, v5⟩; have hl := size_list x7; refine ⟨fun hlt => ⟨v2, by omega, ?_⟩, fun hge => ?_⟩
 ·have hbk : (x7.data.toList.getD x12.toNat 0).toNat < 256 := byte_lt x7 x12.toNat; have hnum : x11 = ((numOf (x7.data.toList.take x12.toNat) : Nat) : Int) := v4; have hnl := numOf_lt _ (x7.data.toList.take x12.toNat) rfl; have hk : (x7.data.toList.take x12.toNat).length ≤ 4 := by rw [List.length_take]; omega
  have hnl2 : numOf (x7.data.toList.take x12.toNat) < 1099511627776 := Nat.lt_of_lt_of_le hnl (Nat.le_trans (Nat.pow_le_pow_right (by decide) hk) (by decide)); have hor : bitsI .or .i64 (shlI .i64 x11 8) (IntKind.wrap .i64 ((x7.data.toList.getD x12.toNat 0).toNat : Int)) = (numOf (x7.data.toList.take (x12 + 1).toNat) : Int) := by
   rw [hnum, or_i64 _ _ hnl2 hbk, show (x12 + 1).toNat = x12.toNat + 1 by omega, numOf_take (by omega)]
  rw [hor]; have next : ¬ byteAt x7 0 = 0 → (-9223372036854775808 ≤ x12 + 1 ∧ x12 + 1 ≤ 9223372036854775807) ∧ (x7.size ≤ 5 ∧ 0 ≤ x12 + 1 ∧ x12 + 1 ≤ x7.size ∧ (numOf (x7.data.toList.take (x12 + 1).toNat) : Int) = numOf (x7.data.toList.take (x12 + 1).toNat) ∧ (0 < x12 + 1 → ¬ byteAt x7 0 = 0)) := fun hb => ⟨⟨by omega, by omega⟩, v1, by omega, by omega, rfl, fun _ => hb⟩
  refine ⟨fun h0 => ⟨fun hz => ?_, fun hz => ?_⟩, fun h0 => ?_⟩
  ·have hz' : byteAt x7 0 = 0 := by subst h0; exact_mod_cast hz
   rw [if_pos ⟨by omega, hz'⟩]; exact ⟨2, rfl, rfl⟩
  ·have hz' : ¬ byteAt x7 0 = 0 := by subst h0; exact fun h => hz (by exact_mod_cast h)
   obtain ⟨n1, n2⟩ := next hz'; exact ⟨n1, n2, fun _ _ => trivial, by omega, trivial⟩
  ·obtain ⟨n1, n2⟩ := next (v5 (by omega)); exact ⟨n1, n2, fun _ _ => trivial, by omega, trivial⟩
 ·have hall : x7.data.toList.take x12.toNat = x7.data.toList := List.take_of_length_le (by omega); rw [hall] at v4; have hnz : ¬ (0 < x7.size ∧ byteAt x7 0 = 0) := fun ⟨a, b⟩ => v5 (by omega) b
  rw [if_neg hnz]; refine ⟨fun hm => ?_, fun hm => ?_⟩
  ·rw [if_pos (by omega)]; exact ⟨3, rfl, rfl⟩
  ·rw [if_neg (by omega)]; refine ⟨?_, fun _ _ => trivial⟩; rw [v4]; rfl
def pNum (s : ByteArray) : Got Int := pUpTo 1099511627775 s
def smP : List U → Prop
 | [.p _, .s s] => Small s
 | _ => False
def numF : List U → Except Int (List U)
 | [.p _, .s s] => gI (pNum s)
 | _ => .error 0
def PNumS : Ctr := rdC smP numF
def cfg_pnum : Cfg := { con := [(138, 0)], lents := [(138, [(0, 208)])], mine := [(0, 208)], pans := [138] }
def vcd_pnum : { v : VC // vcOf Tryz.prog cfg_pnum 58 = v } := by refine ⟨?v, ?h⟩; rotate_left; conv => lhs; reduce
theorem vce_pnum : vcOf Tryz.prog cfg_pnum 58 = vcd_pnum.1 := vcd_pnum.2
theorem pnum_ok : KeepsL Tryz.prog 58 PNumS cfg_pnum.mine := by
 refine keepsL_v Tryz.func58 cfg_pnum vce_pnum [.p, .s] PNumS [(138, PUpToS)] ⟨pupto_ok, trivial⟩ (by kernel_rfl) (fun _ _ _ h => h) ?_; intro x0 x1 w hp; refine ⟨[], vc_use ?Q ?h ?g⟩
 case h => intro O C s I b; conv => lhs; reduce
 dsimp only [std]; simp only [ctrOf, invOf, List.lookup, Nat.reduceBEq, Option.getD_some, Int.reduceOfNat, Int.reduceNegSucc]; have hs : Small x1 := hp; simp only [PNumS, PUpToS, rdC, upToF, numF, pNum]; intro x3; refine stepI (fun e h => by rw [h]; rfl) (fun w hw => hs) fun x4 x5 h1 => ?_
 rw [h1]; exact ⟨rfl, fun _ _ => trivial⟩
def pDig (s : ByteArray) : Got Int := (pTake 8 s).map fun r => ((numOf r.1.data.toList : Int), r.2)
def digF : List U → Except Int (List U)
 | [.p _, .s s] => gI (pDig s)
 | _ => .error 0
def PDigS : Ctr := rdC smP digF
def digInv : Inv where
 inv us := match us with
  | [.i n, .i k, .s b] => b.size = 8 ∧ 0 ≤ k ∧ k ≤ b.size ∧ n = numOf (b.data.toList.take k.toNat)
  | _ => False
 mea us := match us with
  | [.i _, .i k, .s b] => ((b.size : Int) - k).toNat
  | _ => 0
def cfg_pdig : Cfg := { con := [(228, 0)], loops := [(3, { slots := [3, 10], extra := [.var 3] })], lents := [(228, [(0, 208)])], mine := [(0, 208)], pans := [228] }
def vcd_pdig : { v : VC // vcOf Tryz.prog cfg_pdig 150 = v } := by refine ⟨?v, ?h⟩; rotate_left; conv => lhs; reduce
theorem vce_pdig : vcOf Tryz.prog cfg_pdig 150 = vcd_pdig.1 := vcd_pdig.2
theorem pdig_ok : KeepsL Tryz.prog 150 PDigS cfg_pdig.mine := by
 refine keepsL_v Tryz.func150 cfg_pdig vce_pdig [.p, .s] PDigS [(228, PTakeS)] ⟨ptake_ok, trivial⟩ (by kernel_rfl) (fun _ _ _ h => h) ?_; intro x0 x1 w hp; refine ⟨[(3, digInv)], vc_use ?Q ?h ?g⟩
 case h => intro O C s I b; conv => lhs; reduce
 dsimp only [std]; simp only [ctrOf, invOf, List.lookup, Nat.reduceBEq, Option.getD_some, Int.reduceOfNat, Int.reduceNegSucc]; have hs : Small x1 := hp; simp only [PDigS, PTakeS, rdC, takeF, digF, digInv]; intro x2; refine stepS (fun e h => by unfold pDig; rw [h]; rfl) (fun w hw => ⟨by decide, hs⟩) fun x3 x4 h1 => ?_
 obtain ⟨s1, s2, z1⟩ := pTake_small h1 hs (by decide); unfold pDig; rw [h1]; intro x5 x6; refine ⟨⟨by omega, by decide, by omega, rfl⟩, fun _ _ => trivial, ?_⟩; rintro x7 x8 ⟨v1, v2, v3, v4⟩; have hl := size_list x3; refine ⟨fun hlt => ⟨v2, by omega, ?_⟩, fun hge => ?_⟩
 ·have hbk : (x3.data.toList.getD x8.toNat 0).toNat < 256 := byte_lt x3 x8.toNat; have hnl := numOf_lt _ (x3.data.toList.take x8.toNat) rfl; have hk : (x3.data.toList.take x8.toNat).length ≤ 7 := by rw [List.length_take]; omega
  have hnl2 : numOf (x3.data.toList.take x8.toNat) < 72057594037927936 := Nat.lt_of_lt_of_le hnl (Nat.le_trans (Nat.pow_le_pow_right (by decide) hk) (by decide)); have hor : bitsI .or .u64 (shlI .u64 x7 8) (IntKind.wrap .u64 ((x3.data.toList.getD x8.toNat 0).toNat : Int)) = (numOf (x3.data.toList.take (x8 + 1).toNat) : Int) := by
   rw [v4, or_u64 _ _ (by omega) hbk, show (x8 + 1).toNat = x8.toNat + 1 by omega, numOf_take (by omega)]
  rw [hor]; exact ⟨⟨by omega, by omega⟩, ⟨v1, by omega, by omega, rfl⟩, fun _ _ => trivial, by omega, trivial⟩
 ·have hall : x3.data.toList.take x8.toNat = x3.data.toList := List.take_of_length_le (by omega); rw [hall] at v4; refine ⟨?_, fun _ _ => trivial⟩; rw [v4]; rfl
def pFlag (s : ByteArray) : Got Bool :=
 match pTake 1 s with
 | .error e => .error e
 | .ok (b, s1) => if byteAt b 0 = 0 then .ok (false, s1) else if byteAt b 0 = 1 then .ok (true, s1) else .error 2
def flagF : List U → Except Int (List U)
 | [.p _, .s s] => gB (pFlag s)
 | _ => .error 0
def PFlagS : Ctr := rdC smP flagF
def cfg_pflag : Cfg := { con := [(228, 0)], lents := [(228, [(0, 208)])], mine := [(0, 208)], pans := [228] }
def vcd_pflag : { v : VC // vcOf Tryz.prog cfg_pflag 149 = v } := by refine ⟨?v, ?h⟩; rotate_left; conv => lhs; reduce
theorem vce_pflag : vcOf Tryz.prog cfg_pflag 149 = vcd_pflag.1 := vcd_pflag.2
theorem pflag_ok : KeepsL Tryz.prog 149 PFlagS cfg_pflag.mine := by
 refine keepsL_v Tryz.func149 cfg_pflag vce_pflag [.p, .s] PFlagS [(228, PTakeS)] ⟨ptake_ok, trivial⟩ (by kernel_rfl) (fun _ _ _ h => h) ?_; intro x0 x1 w hp; refine ⟨[], vc_use ?Q ?h ?g⟩
 case h => intro O C s I b; conv => lhs; reduce
 dsimp only [std]; simp only [ctrOf, invOf, List.lookup, Nat.reduceBEq, Option.getD_some, Int.reduceOfNat, Int.reduceNegSucc]; have hs : Small x1 := hp; simp only [PFlagS, PTakeS, rdC, takeF, flagF]; intro x2; refine stepS (fun e h => by unfold pFlag; rw [h]; rfl) (fun w hw => ⟨by decide, hs⟩) fun x3 x4 h1 => ?_
 obtain ⟨s1, s2, z1⟩ := pTake_small h1 hs (by decide); unfold pFlag; rw [h1]; dsimp only; refine ⟨by omega, fun h => ?_, fun h => ⟨fun h' => ?_, fun h' => ?_⟩⟩
 ·rw [if_pos (show byteAt x3 0 = 0 by exact_mod_cast h)]; exact ⟨rfl, fun _ _ => trivial⟩
 ·rw [if_neg (show ¬ byteAt x3 0 = 0 from fun e => h (by exact_mod_cast e)), if_pos (show byteAt x3 0 = 1 by exact_mod_cast h')]; exact ⟨rfl, fun _ _ => trivial⟩
 ·rw [if_neg (show ¬ byteAt x3 0 = 0 from fun e => h (by exact_mod_cast e)), if_neg (show ¬ byteAt x3 0 = 1 from fun e => h' (by exact_mod_cast e))]; exact ⟨2, rfl, rfl⟩
structure Rdr (D : Type) where
 us : D → List U
 cells : D → List Value
 strip : D → D
 held : World → D → Prop
 p : ByteArray → Got D
def pRep {α : Type} (p : ByteArray → Got α) : Nat → ByteArray → Got (List α)
 | 0, s => .ok ([], s)
 | k + 1, s => match p s with
  | .error e => .error e
  | .ok (x, s1) => match pRep p k s1 with
   | .error e => .error e
   | .ok (l, s2) => .ok (x :: l, s2)
def pList {α : Type} (most : Int) (p : ByteArray → Got α) (s : ByteArray) : Got (List α) :=
 match pUpTo most s with
 | .error e => .error e
 | .ok (n, s1) => pRep p n.toNat s1
theorem pRep_snoc {α : Type} {p : ByteArray → Got α} : ∀ {k : Nat} {s s1 s2 : ByteArray} {l : List α} {x : α}, pRep p k s = .ok (l, s1) → p s1 = .ok (x, s2) → pRep p (k + 1) s = .ok (l ++ [x], s2)
 | 0, s, s1, s2, l, x, h, h2 => by
  simp only [pRep, Except.ok.injEq, Prod.mk.injEq] at h; obtain ⟨rfl, rfl⟩ := h; simp [pRep, h2]
 | k + 1, s, s1, s2, l, x, h, h2 => by
  unfold pRep at h ⊢
  split at h
  ·cases h
  ·next y t hp =>
   split at h
   ·cases h
   ·next l' t' hr =>
    simp only [Except.ok.injEq, Prod.mk.injEq] at h; obtain ⟨rfl, rfl⟩ := h; rw [pRep_snoc hr h2]; rfl
theorem pRep_err {α : Type} {p : ByteArray → Got α} : ∀ {k n : Nat} {s s1 : ByteArray} {l : List α} {e : Int}, pRep p k s = .ok (l, s1) → p s1 = .error e → k < n → pRep p n s = .error e
 | _, 0, _, _, _, _, _, _, h => absurd h (Nat.not_lt_zero _)
 | 0, n + 1, s, s1, l, e, h, h2, _ => by
  simp only [pRep, Except.ok.injEq, Prod.mk.injEq] at h; obtain ⟨rfl, rfl⟩ := h; simp [pRep, h2]
 | k + 1, n + 1, s, s1, l, e, h, h2, hk => by
  unfold pRep at h ⊢
  split at h
  ·cases h
  ·next y t hp =>
   split at h
   ·cases h
   ·next l' t' hr =>
    simp only [Except.ok.injEq, Prod.mk.injEq] at h; obtain ⟨rfl, rfl⟩ := h; rw [pRep_err hr h2 (Nat.lt_of_succ_lt_succ hk)]
theorem pRep_len {α : Type} {p : ByteArray → Got α} : ∀ {k : Nat} {s s1 : ByteArray} {l : List α}, pRep p k s = .ok (l, s1) → l.length = k
 | 0, s, s1, l, h => by
  simp only [pRep, Except.ok.injEq, Prod.mk.injEq] at h; obtain ⟨rfl, rfl⟩ := h; rfl
 | k + 1, s, s1, l, h => by
  unfold pRep at h; split at h
  ·cases h
  ·split at h
   ·cases h
   ·next l' t' hr =>
    simp only [Except.ok.injEq, Prod.mk.injEq] at h; obtain ⟨rfl, rfl⟩ := h; rw [List.length_cons, pRep_len hr]
theorem pUpTo_spec {most : Int} {s r : ByteArray} {n : Int} (h : pUpTo most s = .ok (n, r)) (hs : Small s) : 0 ≤ n ∧ n ≤ most ∧ Small r := by
 unfold pUpTo at h; split at h
 ·cases h
 ·next k s1 h1 =>
  split at h
  ·cases h
  ·split at h
   ·cases h
   ·next b s2 h2 =>
    split at h
    ·cases h
    ·split at h
     ·cases h
     ·next hm =>
      simp only [Except.ok.injEq, Prod.mk.injEq] at h; obtain ⟨rfl, rfl⟩ := h; have a1 := pTake_small h1 hs (by decide); have a2 := pTake_small h2 a1.2.1 (by omega); exact ⟨by omega, by omega, a2.2.1⟩
def elemC {D : Type} (R : Rdr D) : Ctr where
 pre us _ := smP us
 post us os := match us with
  | [.p _, .s s] => ∃ y s', R.p s = .ok (y, s') ∧ os.getLast? = some (.s s')
  | _ => False
 fact us os w := match us with
  | [.p _, .s s] => ∃ x s', os = R.us x ++ [.s s'] ∧ R.p s = .ok (R.strip x, s') ∧ R.held w x
  | _ => False
 pan us ch := match us with
  | [.p _, .s s] => ∃ e, R.p s = .error e ∧ ch = stopCh e
  | _ => False
def listC {D : Type} (R : Rdr D) (fg size : Nat) : Ctr where
 pre us _ := match us with
  | [.p _, .i most, .v g, .s s] => Small s ∧ g = .func (.func fg) #[] #[] ∧ most ≤ 1000000
  | _ => False
 post us os := match us with
  | [.p _, .i most, .v _, .s s] => match os with
   | [.p _, .n m, .n _, .s s'] => ∃ l, pList most R.p s = .ok (l, s') ∧ l.length = m
   | _ => False
  | _ => False
 fact us os w := match us with
  | [.p _, .i most, .v _, .s s] => match os with
   | [.p A, .n m, .n _, .s s'] => ∃ l : List D, pList most R.p s = .ok (l.map R.strip, s') ∧ m = l.length ∧ Rd w w.heap.size size A m (l.flatMap R.cells) ∧ ∀ x ∈ l, R.held w x
   | _ => False
  | _ => False
 pan us ch := match us with
  | [.p _, .i most, .v _, .s s] => ∃ e, pList most R.p s = .error e ∧ ch = stopCh e
  | _ => False
def listInv {D : Type} (R : Rdr D) : Inv where
 inv us := match us with
  | [.n m, .l _, .i k, .s sk, .i n, .s s1] => 0 ≤ k ∧ (m : Int) = k ∧ k ≤ n ∧ n ≤ 1000000 ∧ Small sk ∧ ∃ l, pRep R.p k.toNat s1 = .ok (l, sk)
  | _ => False
 fact us w := match us with
  | [.n _, .l xs, .i k, .s sk, .i _, .s s1] => ∃ l : List D, pRep R.p k.toNat s1 = .ok (l.map R.strip, sk) ∧ xs = l.flatMap R.cells ∧ ∀ x ∈ l, R.held w x
  | _ => False
 mea us := match us with
  | [.n _, .l _, .i k, .s _, .i n, .s _] => (n - k).toNat
  | _ => 0
theorem Rd.of_row {w : World} {base e size n c : Nat} {A : Option Addr} {xs : List Value} (h : w.ownsRow base e size (.slice A n c) n xs) : Rd w w.heap.size size A n xs := by
 refine ⟨h.1, fun hn => ?_⟩
 rcases h.2 with ⟨e1, e2⟩ | ⟨g, cap, cur, e1, hb, hg, hnc, _, hcs, ht⟩
 ·omega
 ·injection e1 with e1 _ _
  refine ⟨g, 0, e1, lt_of_some hg, fun j u hu => ?_⟩; have := World.ownsRow.cells (g := g) h (by rw [e1]; rfl) j u hu; rw [add_plain] at this; exact this
theorem list_step {D : Type} {R : Rdr D} {k : Int} {s1 sk s' : ByteArray} {xs : List Value} {w : World} {x : D} (h0 : 0 ≤ k) (h : ∃ l : List D, pRep R.p k.toNat s1 = .ok (l.map R.strip, sk) ∧ xs = l.flatMap R.cells ∧ ∀ x ∈ l, R.held w x) (hp : R.p sk = .ok (R.strip x, s')) (hh : R.held w x) : ∃ l : List D, pRep R.p (k + 1).toNat s1 = .ok (l.map R.strip, s') ∧ xs ++ R.cells x = l.flatMap R.cells ∧ ∀ x ∈ l, R.held w x := by
 obtain ⟨l, h1, h2, h3⟩ := h; refine ⟨l ++ [x], ?_, ?_, ?_⟩
 ·rw [show (k + 1).toNat = k.toNat + 1 by omega, List.map_append, List.map_cons, List.map_nil]; exact pRep_snoc h1 hp
 ·rw [h2]; simp
 ·intro y hy
  rcases List.mem_append.1 hy with hy | hy
  ·exact h3 y hy
  ·have : y = x := by simpa using hy
   rw [this]; exact hh
theorem gI_ok {P : Got Int} {x : Int} {s : ByteArray} (h : gI P = .ok [.i x, .s s]) : P = .ok (x, s) := by
 cases P with
 | error e => simp [gI, Except.map] at h
 | ok r => obtain ⟨a, b⟩ := r; simpa [gI, Except.map] using h
theorem gI_err {P : Got Int} {e : Int} (h : gI P = .error e) : P = .error e := by
 cases P with
 | error e' => simpa [gI, Except.map] using h
 | ok r => simp [gI, Except.map] at h
section
variable {D : Type} {R : Rdr D} {fg size : Nat} {a A : Option Addr} {most n k : Int} {s s1 sk s' : ByteArray} {e : Int} {xs : List Value} {m c : Nat}
theorem list_pan1 (h : pUpTo most s = .error e) (g : Value) : (listC R fg size).pan [.p a, .i most, .v g, .s s] (stopCh e) := ⟨e, by unfold pList; rw [h], rfl⟩
theorem list_init (h : pUpTo most s = .ok (n, s1)) (hs : Small s) (hm : most ≤ 1000000) : (listInv R).inv [.n 0, .l [], .i 0, .s s1, .i n, .s s1] ∧ ∀ w, (listInv R).fact [.n 0, .l [], .i 0, .s s1, .i n, .s s1] w := by
 obtain ⟨h0, h1, h2⟩ := pUpTo_spec h hs; exact ⟨⟨by decide, rfl, h0, by omega, h2, [], rfl⟩, fun w => ⟨[], rfl, rfl, by simp⟩⟩
theorem list_pan2 (h : pUpTo most s = .ok (n, s1)) (hi : (listInv R).inv [.n m, .l xs, .i k, .s sk, .i n, .s s1]) (hk : k < n) (he : R.p sk = .error e) (g : Value) : (listC R fg size).pan [.p a, .i most, .v g, .s s] (stopCh e) := by
 obtain ⟨i0, i1, i2, i3, i4, l, i5⟩ := hi; exact ⟨e, by unfold pList; rw [h]; exact pRep_err i5 he (by omega), rfl⟩
theorem list_next {y : D} (hi : (listInv R).inv [.n m, .l xs, .i k, .s sk, .i n, .s s1]) (hk : k < n) (hp : R.p sk = .ok (y, s')) (hs : Small s') (b : Nat) (hb : b ≤ 100000) (ys : List Value) : ((m + 1 : Nat) : Int) ≤ 9223372036854775807 ∧ (((m + 1) * b : Nat) : Int) ≤ 140737488355328 ∧ (-9223372036854775808 ≤ k + 1 ∧ k + 1 ≤ 9223372036854775807) ∧ (listInv R).inv [.n (m + 1), .l ys, .i (k + 1), .s s', .i n, .s s1] ∧ ∀ zs, (listInv R).mea [.n (m + 1), .l ys, .i (k + 1), .s s', .i n, .s s1] < (listInv R).mea [.n m, .l zs, .i k, .s sk, .i n, .s s1] := by
 obtain ⟨i0, i1, i2, i3, i4, l, i5⟩ := hi; have hm : m + 1 ≤ 1000001 := by omega
 have := Nat.mul_le_mul hm hb; refine ⟨by omega, by omega, ⟨by omega, by omega⟩, ⟨by omega, by omega, by omega, i3, hs, l ++ [y], ?_⟩, fun zs => ?_⟩
 ·rw [show (k + 1).toNat = k.toNat + 1 by omega]; exact pRep_snoc i5 hp
 ·show (n - (k + 1)).toNat < (n - k).toNat; omega
theorem list_fin (h : pUpTo most s = .ok (n, s1)) (hi : (listInv R).inv [.n m, .l xs, .i k, .s sk, .i n, .s s1]) (hk : ¬ k < n) (g : Value) : (listC R fg size).post [.p a, .i most, .v g, .s s] [.p A, .n m, .n c, .s sk] ∧ ∀ {w : World} {base e : Nat}, (listInv R).fact [.n m, .l xs, .i k, .s sk, .i n, .s s1] w → w.ownsRow base e size (.slice A m c) m xs → (listC R fg size).fact [.p a, .i most, .v g, .s s] [.p A, .n m, .n c, .s sk] w := by
 obtain ⟨i0, i1, i2, i3, i4, l, i5⟩ := hi; have e : k = n := by omega
 subst e; refine ⟨⟨l, by unfold pList; rw [h]; exact i5, by rw [pRep_len i5]; omega⟩, fun {w base e} hf ho => ?_⟩; obtain ⟨l', f1, f2, f3⟩ := hf; refine ⟨l', by unfold pList; rw [h]; exact f1, ?_, by rw [← f2]; exact Rd.of_row ho, f3⟩; have := pRep_len f1; rw [List.length_map] at this; omega
end
end Go.Proofs.YtjhaafbbdgjagaaGreat
