/- Of the texts Hq0. -/
import Derived.Test.YtlfonmpgenoooaaProg
import Derived.Test.YtlfonmpgenoooaaG15
import Derived.Test.YtlfonmpgenoooaaG17
set_option linter.unusedSimpArgs false
set_option linter.unusedVariables false
namespace Go.Proofs.Ytlfonmpgenoooaa
open Go Go.RowKit Vc
set_option maxRecDepth 100000
def NanC : Ctr where
 pre us _ := ∃ a : Int, us = [.i a]
 post _ os := os = [.b false]
 fact _ _ _ := True
def cmpI (a b : Int) : Int := if a < b then -1 else if b < a then 1 else 0
def CmpC : Ctr where
 pre us _ := ∃ a b : Int, us = [.i a, .i b]
 post us os := ∀ a b : Int, us = [.i a, .i b] → os = [.i (cmpI a b)]
 fact _ _ _ := True
def OrC : Ctr where
 gh := 1
 pre us w := ∃ (A : Option Addr) (c : Nat) (a b : Int), us = [.p A, .n 2, .n c, .g (a, b)] ∧ Rd w w.heap.size 1 A 2 [.int .i64 a, .int .i64 b]
 post us os := ∀ a b : Int, us.getLast? = some (.g (a, b)) → os = [.i (if a = 0 then b else a)]
 fact _ _ _ := True
def ordI (x y : Seat) : Int := if cmpI y.weight x.weight = 0 then cmpI x.who y.who else cmpI y.weight x.weight
theorem ordI_pos (x y : Seat) : decide (0 < ordI x y) = better y x := by
 unfold ordI cmpI better
 by_cases h1 : y.weight < x.weight
 ·rw [if_pos h1]; simp only [show ¬ ((-1 : Int) = 0) by decide, if_false]; rw [decide_eq_false (by omega), decide_eq_false (by omega), beq_eq_false_iff_ne.2 (by omega)]; rfl
 ·rw [if_neg h1]
  by_cases h2 : x.weight < y.weight
  ·rw [if_pos h2, if_neg (by decide), decide_eq_true (by decide), decide_eq_true h2]; rfl
  ·rw [if_neg h2, if_pos rfl, decide_eq_false (p := x.weight < y.weight) h2, beq_iff_eq.2 (by omega : y.weight = x.weight)]
   by_cases h3 : x.who < y.who
   ·rw [if_pos h3, decide_eq_false (by decide), decide_eq_false (by omega)]; rfl
   ·rw [if_neg h3]
    by_cases h4 : y.who < x.who
    ·rw [if_pos h4, decide_eq_true (by decide), decide_eq_true h4]; rfl
    ·rw [if_neg h4, decide_eq_false (by decide), decide_eq_false h4]; rfl
def OrdC : Ctr where
 pre us _ := ∃ x y : Seat, us = [.i x.who, .i x.weight, .i y.who, .i y.weight]
 post us os := ∀ x y : Seat, us = [.i x.who, .i x.weight, .i y.who, .i y.weight] → os = [.i (ordI x y)]
 fact _ _ _ := True
def LessC : Ctr where
 gh := 1
 pre us w := ∃ (A : Option Addr) (c i j : Nat) (l : List Seat), us = [.p A, .n l.length, .n c, .i i, .i j, .g l] ∧ Rd w w.heap.size 2 A l.length (seatsCells l) ∧ i < l.length ∧ j < l.length
 post us os := ∀ (A : Option Addr) (c i j : Nat) (l : List Seat), us = [.p A, .n l.length, .n c, .i i, .i j, .g l] → os = [.b (better (at7 l j) (at7 l i))]
 fact _ _ _ := True
def orInv (a b : Int) : Inv where
 inv us := match us with
  | [.i k] => k = 0 ∨ k = 1 ∧ a = 0 ∨ k = 2 ∧ a = 0 ∧ b = 0
  | _ => False
 fact _ _ := True
 mea us := match us with
  | [.i k] => (2 - k).toNat
  | _ => 0
theorem loads_rd7 {w : World} {B size n : Nat} {A : Option Addr} {xs : List Value} (h : Rd w B size A n xs) (hn : 0 < n) {off : Nat} {part : List Value} (hp : ∀ j v, part[j]? = some v → xs[off + j]? = some v) : LoadsAt w (A.map (·.add off)) part := by
 obtain ⟨b, o, rfl, _, hc⟩ := h.2 hn; refine ⟨⟨b, o + off, none⟩, ?_, fun j v hv => ?_⟩
 ·show some ((⟨b, o, none⟩ : Addr).add off) = _; rw [add_plain]
 ·rw [add_plain, Nat.add_assoc]; exact hc _ v (hp j v hv)
theorem rd_some7 {w : World} {B size n : Nat} {A : Option Addr} {xs : List Value} (h : Rd w B size A n xs) (hn : 0 < n) : ¬ (A.isNone = true) := by
 obtain ⟨b, o, rfl, _⟩ := h.2 hn; simp
theorem loads_seat {w : World} {B : Nat} {A : Option Addr} {l : List Seat} (h : Rd w B 2 A l.length (seatsCells l)) {k : Nat} (hk : k < l.length) : LoadsAt w (A.map (·.add (k * 2))) [.int .i64 (at7 l k).who, .int .i64 (at7 l k).weight] := by
 refine loads_rd7 h (by omega) fun j v hv => ?_
 have hj : j < 2 := (List.getElem?_eq_some_iff.1 hv).1; have e : at7 l k = l[k] := by
  unfold at7; rw [List.getD_eq_getElem?_getD, List.getElem?_eq_getElem hk]; rfl
 rw [seatsCells_at l k j hj, List.getElem?_eq_getElem hk, ← e]; exact hv
def cfg_nan : Cfg := {  }
def vcd_nan : { v : VC // vcOf Try.prog cfg_nan 43 = v } := by refine ⟨?v, ?h⟩; rotate_left; conv => lhs; reduce
theorem vce_nan : vcOf Try.prog cfg_nan 43 = vcd_nan.1 := vcd_nan.2
theorem nan_keeps : Keeps Try.prog 43 NanC := by
 refine keeps_v Try.func43 cfg_nan vce_nan [.i] NanC [] trivial (by kernel_rfl) (fun _ _ _ h _ => h) ?_; intro a w hp; refine ⟨[], vc_use ?Q ?h ?g⟩
 case h => intro O C s I b; conv => lhs; reduce
 dsimp only [std]
 try simp only [ctrOf, invOf, List.lookup, Nat.reduceBEq, Option.getD_some, Int.reduceOfNat, Int.reduceNegSucc]
 refine ⟨?_, fun _ _ => trivial⟩; show [U.b (!(a == a))] = _; rw [beq_self_eq_true]; rfl
def cfg_cmpi : Cfg := { con := [(43, 0)] }
def vcd_cmpi : { v : VC // vcOf Try.prog cfg_cmpi 27 = v } := by refine ⟨?v, ?h⟩; rotate_left; conv => lhs; reduce
theorem vce_cmpi : vcOf Try.prog cfg_cmpi 27 = vcd_cmpi.1 := vcd_cmpi.2
theorem cmp_keeps : Keeps Try.prog 27 CmpC := by
 refine keeps_v Try.func27 cfg_cmpi vce_cmpi [.i, .i] CmpC [(43, NanC)] ⟨nan_keeps, trivial⟩ (by kernel_rfl) (fun _ _ _ h _ => h) ?_; intro a b w hp; refine ⟨[], vc_use ?Q ?h ?g⟩
 case h => intro O C s I b; conv => lhs; reduce
 dsimp only [std]
 try simp only [ctrOf, invOf, List.lookup, Nat.reduceBEq, Option.getD_some, Int.reduceOfNat, Int.reduceNegSucc]
 have hP : ∀ z : Int, z = cmpI a b → CmpC.post [.i a, .i b] [.i z] := by
  intro z hz a' b' he; simp only [List.cons.injEq, U.i.injEq, and_true] at he; obtain ⟨rfl, rfl⟩ := he; rw [hz]
 refine ⟨fun _ _ => ⟨_, rfl⟩, fun x2 h2 => ⟨fun _ _ => ⟨_, rfl⟩, fun x3 h3 => ?_⟩⟩; have h2 : [U.b x2] = [U.b false] := h2; have h3 : [U.b x3] = [U.b false] := h3; simp only [List.cons.injEq, U.b.injEq, and_true] at h2 h3; subst h2; subst h3; refine ⟨fun h => (by cases h), fun _ => ⟨fun h => (by cases h), fun _ => ⟨fun h => ⟨hP _ ?_, fun _ _ => trivial⟩, fun h => ⟨fun h' => ⟨hP _ ?_, fun _ _ => trivial⟩, fun h' => ⟨hP _ ?_, fun _ _ => trivial⟩⟩⟩⟩⟩
 ·unfold cmpI; rw [if_pos h]
 ·unfold cmpI; rw [if_neg h, if_pos h']
 ·unfold cmpI; rw [if_neg h, if_neg h']
def cfg_ori : Cfg := { own := 1, loops := [(3, { slots := [8] })] }
def vcd_ori : { v : VC // vcOf Try.prog cfg_ori 101 = v } := by refine ⟨?v, ?h⟩; rotate_left; conv => lhs; reduce
theorem vce_ori : vcOf Try.prog cfg_ori 101 = vcd_ori.1 := vcd_ori.2
theorem or_keeps : Keeps Try.prog 101 OrC := by
 refine keeps_v Try.func101 cfg_ori vce_ori [.p, .n, .n, .g] OrC [] trivial (by kernel_rfl) (fun us w w' h hb => by
  obtain ⟨A, c, a, b, e, r⟩ := h; exact ⟨A, c, a, b, e, (r.below hb).more hb.size⟩) ?_
 intro A n c α g w hp; obtain ⟨A', c', a, b, he, hr⟩ := hp; simp only [List.reverse_cons, List.reverse_nil, List.nil_append, List.cons_append, List.cons.injEq, U.p.injEq, U.n.injEq, and_true] at he; obtain ⟨rfl, rfl, rfl, hg⟩ := he; cases hg; refine ⟨[(3, orInv a b)], vc_use ?Q ?h ?g⟩
 case h => intro O C s I b; conv => lhs; reduce
 dsimp only [std]
 try simp only [ctrOf, invOf, List.lookup, Nat.reduceBEq, Option.getD_some, Int.reduceOfNat, Int.reduceNegSucc]
 have hK : ∀ w, OrC.pre [.p A, .n 2, .n c, .g (a, b)] w → Rd w w.heap.size 1 A 2 [.int .i64 a, .int .i64 b] := by
  rintro w ⟨A', c', a', b', he, r⟩; simp only [List.cons.injEq, U.p.injEq, U.n.injEq, and_true] at he; obtain ⟨rfl, _, rfl, hg⟩ := he; cases hg; exact r
 have hP : ∀ z : Int, z = (if a = 0 then b else a) → OrC.post [.p A, .n 2, .n c, .g (a, b)] [.i z] := by
  intro z hz a' b' he; have he : some (U.g (a, b)) = some (U.g (a', b')) := he; injection he with he
  cases he; rw [hz]
 clear hr; refine ⟨.inl rfl, fun _ _ => trivial, ?_⟩; intro k hk; have hk : k = 0 ∨ k = 1 ∧ a = 0 ∨ k = 2 ∧ a = 0 ∧ b = 0 := hk; refine ⟨fun hlt => ?_, fun hge => ⟨hP _ ?_, fun _ _ => trivial⟩⟩
 ·refine ⟨fun w hw => rd_some7 (hK w hw.1) (by decide), by omega, if k = 0 then a else b, fun w hw => ?_, fun hne => ⟨hP _ ?_, fun _ _ => trivial⟩, fun h0 => ⟨⟨by omega, by omega⟩, ?_, fun _ _ => trivial, ?_, trivial⟩⟩
  ·have hk2 : k = 0 ∨ k = 1 := by omega
   rcases hk2 with rfl | rfl
   ·exact loads_rd7 (hK w hw.1) (by decide) (off := 0) (part := [.int .i64 a]) (fun j v hv => by cases j with | zero => exact hv | succ j => cases hv)
   ·exact loads_rd7 (hK w hw.1) (by decide) (off := 1) (part := [.int .i64 b]) (fun j v hv => by cases j with | zero => exact hv | succ j => cases hv)
  ·rcases hk with rfl | ⟨rfl, h⟩ | h
   ·rw [if_pos rfl] at hne ⊢
    rw [if_neg hne]
   ·rw [if_neg (by decide), if_pos h]
   ·omega
  ·show k + 1 = 0 ∨ k + 1 = 1 ∧ a = 0 ∨ k + 1 = 2 ∧ a = 0 ∧ b = 0
   rcases hk with rfl | ⟨rfl, h⟩ | h
   ·rw [if_pos rfl] at h0; exact .inr (.inl ⟨rfl, h0⟩)
   ·rw [if_neg (by decide)] at h0; exact .inr (.inr ⟨rfl, h, h0⟩)
   ·omega
  ·show (2 - (k + 1)).toNat < (2 - k).toNat; omega
 ·obtain ⟨_, h1, h2⟩ : k = 2 ∧ a = 0 ∧ b = 0 := by omega
  rw [if_pos h1, h2]
def cfg_order : Cfg := { con := [(27, 0), (101, 1)] }
def vcd_order : { v : VC // vcOfP Try.prog cfg_order [(1, [1000004, 1005004, 17, 37, 41, 45, 48])] 100 = v } := by refine ⟨?v, ?h⟩; rotate_left; conv => lhs; reduce
theorem vce_order : vcOf Try.prog cfg_order 100 = vcd_order.1 := by kernel_rfl
theorem order_keeps : Keeps Try.prog 100 OrdC := by
 refine keeps_v Try.func100 cfg_order vce_order [.i, .i, .i, .i] OrdC [(27, CmpC), (101, OrC)] ⟨cmp_keeps, or_keeps, trivial⟩ (by kernel_rfl) (fun _ _ _ h _ => h) ?_; intro a1 a2 b1 b2 w hp; refine ⟨[], vc_use ?Q ?h ?g⟩
 case h => intro O C s I b; conv => lhs; reduce
 dsimp only [std]
 try simp only [ctrOf, invOf, List.lookup, Nat.reduceBEq, Option.getD_some, Int.reduceOfNat, Int.reduceNegSucc]
 refine ⟨fun _ _ => ⟨_, _, rfl⟩, fun x4 h4 => ⟨fun _ _ => ⟨_, _, rfl⟩, fun x5 h5 x6 x7 => ⟨Int × Int, (x4, x5), fun w hw => ⟨x6, x7, x4, x5, rfl, Rd.of_own hw.2⟩, fun x9 h9 => ⟨?_, fun _ _ => trivial⟩⟩⟩⟩; have h4 := h4 _ _ rfl; have h5 := h5 _ _ rfl; have h9 := h9 x4 x5 rfl; simp only [List.cons.injEq, U.i.injEq, and_true] at h4 h5 h9; intro x y he; simp only [List.cons.injEq, U.i.injEq, and_true] at he; obtain ⟨rfl, rfl, rfl, rfl⟩ := he; rw [h9, h4, h5]; rfl
def cfg_less : Cfg := { con := [(100, 0)], own := 1 }
def vcd_less : { v : VC // vcOfP Try.prog cfg_less [(1, [1000008, 33, 1009002])] 98 = v } := by refine ⟨?v, ?h⟩; rotate_left; conv => lhs; reduce
theorem vce_less : vcOf Try.prog cfg_less 98 = vcd_less.1 := by kernel_rfl
theorem less_keeps : Keeps Try.prog 98 LessC := by
 refine keeps_v Try.func98 cfg_less vce_less [.p, .n, .n, .i, .i, .g] LessC [(100, OrdC)] ⟨order_keeps, trivial⟩ (by kernel_rfl) (fun us w w' h hb => by
  obtain ⟨A, c, i, j, l, e, r, q⟩ := h; exact ⟨A, c, i, j, l, e, (r.below hb).more hb.size, q⟩) ?_
 intro A n c i j α g w hp; obtain ⟨A', c', i', j', l, he, hr, hi, hj⟩ := hp; simp only [List.reverse_cons, List.reverse_nil, List.nil_append, List.cons_append, List.cons.injEq, U.p.injEq, U.n.injEq, U.i.injEq, and_true] at he; obtain ⟨rfl, rfl, rfl, rfl, rfl, hg⟩ := he; cases hg; refine ⟨[], vc_use ?Q ?h ?g⟩
 case h => intro O C s I b; conv => lhs; reduce
 dsimp only [std]
 try simp only [ctrOf, invOf, List.lookup, Nat.reduceBEq, Option.getD_some, Int.reduceOfNat, Int.reduceNegSucc]
 simp only [Int.ofNat_eq_natCast]; have hK : ∀ w, LessC.pre [.p A, .n l.length, .n c, .i i', .i j', .g l] w → Rd w w.heap.size 2 A l.length (seatsCells l) := by
  rintro w ⟨A', c', i1, j1, l', he, r, _⟩; simp only [List.cons.injEq, U.p.injEq, U.n.injEq, U.i.injEq, and_true] at he; obtain ⟨rfl, _, rfl, _, _, hg⟩ := he; cases hg; exact r
 clear hr; refine ⟨fun w hw => rd_some7 (hK w hw) (by omega), by omega, by omega, (at7 l i').who, (at7 l i').weight, fun w hw => ?_, by omega, by omega, (at7 l j').who, (at7 l j').weight, fun w hw => ?_, fun _ _ => ⟨_, _, rfl⟩, fun x h => ⟨?_, fun _ _ => trivial⟩⟩
 ·rw [Int.toNat_natCast]; exact loads_seat (hK w hw) hi
 ·rw [Int.toNat_natCast]; exact loads_seat (hK w hw) hj
 have h := h _ _ rfl; simp only [List.cons.injEq, U.i.injEq, and_true] at h; intro A' c' i1 j1 l' he; simp only [List.cons.injEq, U.p.injEq, U.n.injEq, U.i.injEq, and_true] at he; obtain ⟨_, _, _, e1, e2, hg⟩ := he; cases hg; have e1 : i1 = i' := by omega
 have e2 : j1 = j' := by omega
 rw [h, ordI_pos, e1, e2]
end Go.Proofs.Ytlfonmpgenoooaa
