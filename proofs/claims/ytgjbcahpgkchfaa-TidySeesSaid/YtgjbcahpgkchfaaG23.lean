/- Of the texts Ty14, Ty15, Ty16, Ty17. -/
import Derived.Test.YtgjbcahpgkchfaaG22
set_option linter.unusedSimpArgs false
set_option linter.unusedVariables false
namespace Go.Proofs.Ytgjbcahpgkchfaa
open Go Go.RowKit Vc
set_option maxRecDepth 100000
def EqualC : Ctr where
 gh := 2
 pre us w := ∃ A c A' c', ∃ b d : List Ins, us = [.p A, .n b.length, .n c, .p A', .n d.length, .n c', .g b, .g d] ∧ InsM w A b ∧ InsM w A' d ∧ b.length ≤ 2048 ∧ d.length ≤ 2048
 post us os := ∀ b d : List Ins, us.drop 6 = [.g b, .g d] → ∃ t, os = [.b t] ∧ (t = true ↔ b = d)
 fact _ _ _ := True
theorem gg_inj {α β : Type} {x y : α} {u v : β} (h : [U.g x, .g u] = [U.g y, .g v]) : x = y ∧ u = v := by
 injection h with h1 h2
 injection h2 with h2
 exact ⟨g_inj' (congrArg some h1), g_inj' (congrArg some h2)⟩
theorem equal_get {A A' : Option Addr} {n c n' c' : Nat} {b d : List Ins} {w : World} (h : EqualC.pre [.p A, .n n, .n c, .p A', .n n', .n c', .g b, .g d] w) : InsM w A b ∧ InsM w A' d := by
 obtain ⟨B, e, B', e', b', d', he, h1, h2, _⟩ := h; simp only [List.cons.injEq, U.p.injEq, U.n.injEq, and_true] at he; obtain ⟨rfl, _, _, rfl, _, _, hg, hg2⟩ := he; cases hg; cases hg2; exact ⟨h1, h2⟩
def cfg_equal : Cfg := { own := 2, loops := [(4, { slots := [13] })] }
def vcd_equal : { v : VC // vcOfP Try.prog cfg_equal [(6, [1000009])] 18 = v } := by refine ⟨?v, ?h⟩; rotate_left; conv => lhs; reduce
theorem vce_equal : vcOf Try.prog cfg_equal 18 = vcd_equal.1 := by kernel_rfl
theorem equal_keeps : Keeps Try.prog 18 EqualC := by
 refine keeps_v Try.func18 cfg_equal vce_equal [.p, .n, .n, .p, .n, .n, .g, .g] EqualC [] trivial (by kernel_rfl) (fun _ _ _ h hb => by
  obtain ⟨A, c, A', c', b, d, h1, h2, h3, h4⟩ := h; exact ⟨A, c, A', c', b, d, h1, h2.on hb, h3.on hb, h4⟩) ?_
 intro x0 x1 x2 x3 x4 x5 α x6 β x7 w hp; have hp : EqualC.pre [.p x0, .n x1, .n x2, .p x3, .n x4, .n x5, .g x6, .g x7] w := hp; obtain ⟨A, c, A', c', b, d, he, hI, hJ, hl, hl'⟩ := hp; simp only [List.cons.injEq, U.p.injEq, U.n.injEq, and_true] at he; obtain ⟨rfl, rfl, rfl, rfl, rfl, rfl, hg, hg2⟩ := he; cases hg; cases hg2; refine ⟨[(4, { inv := fun v => ∃ j : Nat, j ≤ b.length ∧ b.take j = d.take j ∧ v = [.i j], mea := fun v => match v with | [.i i] => b.length - i.toNat | _ => 0 })], vc_use ?Q ?h ?g⟩
 case h => intro O C s I b; conv => lhs; reduce
 dsimp only [std]; simp only [ctrOf, invOf, List.lookup, Nat.reduceBEq, Option.getD_some, Int.reduceOfNat, Int.reduceNegSucc]; have fin : ∀ t : Bool, (t = true ↔ b = d) → EqualC.post [.p x0, .n b.length, .n x2, .p x3, .n d.length, .n x5, .g b, .g d] [.b t] := fun t ht b' d' hb => by
  obtain ⟨rfl, rfl⟩ := gg_inj hb; exact ⟨t, rfl, ht⟩
 have no : b ≠ d → (false = true ↔ b = d) := fun h => ⟨fun h' => (by cases h'), fun h' => absurd h' h⟩
 refine ⟨fun hne => ⟨fin false (no fun e => hne (by rw [e])), fun _ _ => trivial⟩, fun heq => ⟨⟨0, Nat.zero_le _, rfl, rfl⟩, fun _ _ => trivial, ?_⟩⟩; have heq : b.length = d.length := by omega
 rintro i ⟨j, hj, hpre, he⟩; simp only [List.cons.injEq, U.i.injEq, and_true] at he; subst he; refine ⟨fun hlt => ?_, fun hge => ⟨fin true ⟨fun _ => ?_, fun _ => rfl⟩, fun _ _ => trivial⟩⟩
 ·have hj0 : j < b.length := by omega
  have hj1 : j < d.length := by omega
  have e1 : ((j : Int) + 1).toNat = j + 1 := by omega
  simp only [e1, Int.toNat_natCast]; refine ⟨fun w h => (equal_get h.1).1.nn hj0, by omega, b[j].op, b[j].a, b[j].b, fun w h => (equal_get h.1).1.ld hj0, fun w h => (equal_get h.1).2.nn hj1, by omega, d[j].op, d[j].a, d[j].b, fun w h => (equal_get h.1).2.ld hj1, fun hne => ⟨fin false (no fun e => ?_), fun _ _ => trivial⟩, fun hey => ?_⟩
  ·subst e; exact hne ⟨rfl, rfl, rfl⟩
  ·have : b[j] = d[j] := by
    obtain ⟨h1, h2, h3⟩ := hey; generalize b[j] = x at *; generalize d[j] = y at *; obtain ⟨a1, a2, a3⟩ := x; obtain ⟨b1, b2, b3⟩ := y; simp only at h1 h2 h3; rw [h1, h2, h3]
   refine ⟨by omega, ⟨j + 1, by omega, ?_, rfl⟩, fun _ _ => trivial, by omega, trivial⟩; rw [List.take_succ_eq_append_getElem hj0, List.take_succ_eq_append_getElem hj1, hpre, this]
 ·obtain rfl : j = b.length := by omega
  rw [List.take_length, heq, List.take_length] at hpre; exact hpre
def cfg_one : Cfg := {  }
def vcd_one : { v : VC // vcOf Try.prog cfg_one 29 = v } := by refine ⟨?v, ?h⟩; rotate_left; conv => lhs; reduce
theorem vce_one : vcOf Try.prog cfg_one 29 = vcd_one.1 := vcd_one.2
def cfg_rsum : Cfg := { con := [(29, 0)] }
def vcd_rsum : { v : VC // vcOf Try.prog cfg_rsum 22 = v } := by refine ⟨?v, ?h⟩; rotate_left; conv => lhs; reduce
theorem vce_rsum : vcOf Try.prog cfg_rsum 22 = vcd_rsum.1 := vcd_rsum.2
def cfg_round : Cfg := { own := 1, loops := [(2, { slots := [5, 1] })] }
def vcd_round : { v : VC // vcOf Try.prog cfg_round 21 = v } := by refine ⟨?v, ?h⟩; rotate_left; conv => lhs; reduce
theorem vce_round : vcOf Try.prog cfg_round 21 = vcd_round.1 := vcd_round.2
def OneC : Ctr where
 gh := 0
 pre us _ := match us with | [.b _] => True | _ => False
 post us os := match us with | [.b t] => os = [.i (if t then 1 else 0)] | _ => False
 fact _ _ _ := True
theorem one_keeps : Keeps Try.prog 29 OneC := by
 refine keeps_v Try.func29 cfg_one vce_one [.b] OneC [] trivial (by kernel_rfl) (fun _ _ _ h _ => h) ?_; intro t w hp; refine ⟨[], vc_use ?Q ?h ?g⟩
 case h => intro O C s I b; conv => lhs; reduce
 dsimp only [std]; exact ⟨fun h => ⟨by rw [h]; rfl, fun _ _ => trivial⟩, fun h => ⟨by rw [show t = false by simpa using h]; rfl, fun _ _ => trivial⟩⟩
def RSumC : Ctr where
 gh := 0
 pre us _ := match us with | [.i _, .i a, .i b] => Num a ∧ Num b | _ => False
 post us os := match us with | [.i op, .i a, .i b] => ∃ n t, os = [.i n, .b t] ∧ (5 ≤ op → op ≤ 12 → sumS op a b = if t then some n else none) | _ => False
 fact _ _ _ := True
theorem rsum_keeps : Keeps Try.prog 22 RSumC := by
 refine keeps_v Try.func22 cfg_rsum vce_rsum [.i, .i, .i] RSumC [(29, OneC)] ⟨one_keeps, trivial⟩ (by kernel_rfl) (fun _ _ _ h _ => h) ?_; intro op a b w hp; have hp : Num a ∧ Num b := hp; obtain ⟨ha, hb⟩ := hp; refine ⟨[], vc_use ?Q ?h ?g⟩
 case h => intro O C s I b; conv => lhs; reduce
 dsimp only [std]; simp only [ctrOf, invOf, List.lookup, Nat.reduceBEq, Option.getD_some, Int.reduceOfNat, Int.reduceNegSucc]; have ha1 := ha.1; have ha2 := ha.2; have hb1 := hb.1; have hb2 := hb.2; have t1 := fun h => num_mul ha hb h
 have t2 : Num 1099511627775 := ⟨by omega, by omega⟩
 have t3 := num_tdiv t2 ha; have t4 := num_tdiv ha hb; have fin : ∀ (n : Int) (K : World → Prop), sumS op a b = (if 0 ≤ n ∧ n ≤ 1099511627775 then some n else none) → RSumC.post [U.i op, U.i a, U.i b] [U.i n, U.b (decide (0 ≤ n) && decide (n ≤ 1099511627775))] ∧ ∀ w, K w → RSumC.fact [U.i op, U.i a, U.i b] [U.i n, U.b (decide (0 ≤ n) && decide (n ≤ 1099511627775))] w := fun n K h => by
  refine ⟨⟨_, _, rfl, fun _ _ => ?_⟩, fun _ _ => trivial⟩; rw [h]; simp only [Bool.and_eq_true, decide_eq_true_eq]
 have no : sumS op a b = none → RSumC.post [U.i op, U.i a, U.i b] [U.i 0, U.b false] := fun h => ⟨_, _, rfl, fun _ _ => h⟩
 have yes : ∀ {n : Int}, sumS op a b = some n → sumS op a b = (if 0 ≤ n ∧ n ≤ 1099511627775 then some n else none) := fun {n} h => by
  rw [if_pos (sumS_bd h ha hb)]; exact h
 have one : ∀ (t : Bool) (n : Int), OneC.post [.b t] [.i n] → n = (if t then 1 else 0) := fun t n h => by
  have h : [U.i n] = [.i (if t then 1 else 0)] := h; simp only [List.cons.injEq, U.i.injEq, and_true] at h; exact h
 refine ⟨fun h5 => ⟨by omega, fin _ _ ?_⟩, fun h5 => ⟨fun h6 => ⟨by omega, fin _ _ ?_⟩, fun h6 => ⟨fun h7 => ⟨fun h0 => ⟨by omega, by omega, fun hlt => ⟨no ?_, fun _ _ => trivial⟩, fun hlt => ⟨?_, fin _ _ ?_⟩⟩, fun h0 => ⟨?_, fin _ _ ?_⟩⟩, fun h7 => ⟨fun h8 => ⟨fun h0 => ⟨no ?_, fun _ _ => trivial⟩, fun h0 => ⟨by omega, fun h => absurd h (by omega), fun _ => fin _ _ ?_⟩⟩, fun h8 => ⟨fun h9 => ⟨fun h0 => ⟨no ?_, fun _ _ => trivial⟩, fun h0 => ?_⟩, fun h9 => ⟨fun h10 => ⟨fun _ _ => trivial, fun n hu => fin _ _ ?_⟩, fun h10 => ⟨fun h11 => ⟨fun _ _ => trivial, fun n hu => fin _ _ ?_⟩, fun h11 => ⟨fun h12 => ⟨fun _ _ => trivial, fun n hu => fin _ _ ?_⟩, fun h12 => ⟨⟨_, _, rfl, fun h h' => by omega⟩, fun _ _ => trivial⟩⟩⟩⟩⟩⟩⟩⟩⟩
 ·unfold sumS; rw [if_pos h5]
  by_cases h : a + b ≤ 1099511627775
  ·rw [if_pos h, if_pos (by omega)]
  ·rw [if_neg h, if_neg (by omega)]
 ·unfold sumS; rw [if_neg h5, if_pos h6]
  by_cases h : b ≤ a
  ·rw [if_pos h, if_pos (by omega)]
  ·rw [if_neg h, if_neg (by omega)]
 ·unfold sumS; rw [if_neg h5, if_neg h6, if_pos h7, if_pos ⟨by omega, hlt⟩]
 ·have := t1 fun _ => hlt
  omega
 ·refine yes ?_; unfold sumS; rw [if_neg h5, if_neg h6, if_pos h7, if_neg (fun h => hlt h.2)]
 ·have := t1 fun h => absurd h (by omega)
  omega
 ·refine yes ?_; unfold sumS; rw [if_neg h5, if_neg h6, if_pos h7, if_neg (fun h => h.1 (by omega))]
 ·unfold sumS; rw [if_neg h5, if_neg h6, if_neg h7, if_pos h8, if_pos h0]
 ·refine yes ?_; unfold sumS; rw [if_neg h5, if_neg h6, if_neg h7, if_pos h8, if_neg h0]
 ·unfold sumS; rw [if_neg h5, if_neg h6, if_neg h7, if_neg h8, if_pos h9, if_pos h0]
 ·have hs : sumS op a b = some (a.tmod b) := by
   unfold sumS; rw [if_neg h5, if_neg h6, if_neg h7, if_neg h8, if_pos h9, if_neg h0]
  have hbd := sumS_bd hs ha hb; have e : a - a.tdiv b * b = a.tmod b := by rw [Int.tmod_def, Int.mul_comm]
  have e2 : a.tdiv b * b = a - a.tmod b := by omega
  rw [e]; exact ⟨by omega, by omega, by omega, fin _ _ (yes hs)⟩
 ·obtain rfl := one _ _ hu; refine yes ?_; unfold sumS; rw [if_neg h5, if_neg h6, if_neg h7, if_neg h8, if_neg h9, if_pos h10]; simp only [beq_iff_eq]
 ·obtain rfl := one _ _ hu; refine yes ?_; unfold sumS; rw [if_neg h5, if_neg h6, if_neg h7, if_neg h8, if_neg h9, if_neg h10, if_pos h11]; simp only [decide_eq_true_eq]
 ·obtain rfl := one _ _ hu; refine yes ?_; unfold sumS; rw [if_neg h5, if_neg h6, if_neg h7, if_neg h8, if_neg h9, if_neg h10, if_neg h11, if_pos h12]; simp only [decide_eq_true_eq]
def RoundC : Ctr where
 gh := 1
 pre us w := ∃ A c, ∃ b : List Ins, ∃ k : Nat, us = [.p A, .n b.length, .n c, .i k, .g b] ∧ InsM w A b ∧ Within b ∧ b.length ≤ 2048 ∧ Never b k
 post _ os := os = [.b true]
 fact _ _ _ := True
theorem round_get {A : Option Addr} {n c : Nat} {k : Int} {b : List Ins} {w : World} (h : RoundC.pre [.p A, .n n, .n c, .i k, .g b] w) : InsM w A b := by
 obtain ⟨A', c', b', k', he, h, _⟩ := h; simp only [List.cons.injEq, U.p.injEq, U.n.injEq, and_true] at he; obtain ⟨rfl, _, _, _, hg⟩ := he; cases hg; exact h
theorem round_keeps : Keeps Try.prog 21 RoundC := by
 refine keeps_v Try.func21 cfg_round vce_round [.p, .n, .n, .i, .g] RoundC [] trivial (by kernel_rfl) (fun _ _ _ h hb => by
  obtain ⟨A, c, b, k, h1, h2, h3⟩ := h; exact ⟨A, c, b, k, h1, h2.on hb, h3⟩) ?_
 intro x0 x1 x2 x3 α x4 w hp; have hp : RoundC.pre [.p x0, .n x1, .n x2, .i x3, .g x4] w := hp; obtain ⟨A, c, b, k, he, hI, hW, hl, hN⟩ := hp; simp only [List.cons.injEq, U.p.injEq, U.n.injEq, U.i.injEq, and_true] at he; obtain ⟨rfl, rfl, rfl, rfl, hg⟩ := he; cases hg; refine ⟨[(2, { inv := fun v => ∃ m : Nat, m ≤ b.length + 1 ∧ v = [.i m, .i (itN b m k : Nat)], mea := fun v => match v with | [.i i, _] => b.length + 1 - i.toNat | _ => 0 })], vc_use ?Q ?h ?g⟩
 case h => intro O C s I b; conv => lhs; reduce
 dsimp only [std]; simp only [ctrOf, invOf, List.lookup, Nat.reduceBEq, Option.getD_some, Int.reduceOfNat, Int.reduceNegSucc]; refine ⟨⟨0, Nat.zero_le _, rfl⟩, fun _ _ => trivial, ?_⟩; rintro i t ⟨m, hm, he⟩; simp only [List.cons.injEq, U.i.injEq, and_true] at he; obtain ⟨rfl, rfl⟩ := he; have hJ := hN m; have hlt := isJ_lt hJ; have h14 := (isJ_op hlt).1 hJ; obtain ⟨h0, h1⟩ := hW _ (List.getElem_mem hlt) (jmpB_iff.2 (.inl h14)); have e1 : ((m : Int) + 1).toNat = m + 1 := by omega
 simp only [e1, Int.toNat_natCast]; refine ⟨fun hle => ⟨fun w h => (round_get h.1).nn hlt, by omega, by omega, b[itN b m k].op, fun w h => (round_get h.1).ld0 hlt, fun h => absurd h14 h, fun _ => ⟨b[itN b m k].a, fun w h => (round_get h.1).ld1 hlt, by omega, ⟨m + 1, by omega, ?_⟩, fun _ _ => trivial, by omega, trivial⟩⟩, fun _ => ⟨rfl, fun _ _ => trivial⟩⟩; rw [itN_succ, nx_a hlt, Int.toNat_of_nonneg h0]; rfl
structure Plain (b : List Ins) (hs : List Int) : Prop where
 len : hs.length = b.length
 hgt : ∀ (k : Nat) (h : Int), hs[k]? = some h → 0 ≤ h
 within : Within b
 small : b.length ≤ 2048
 num : ∀ x, x ∈ b → x.op = 1 → Num x.a
 j1 : ∀ (k : Nat) (x : Ins), b[k]? = some x → x.op = 14 → x.a ≠ (k : Int) + 1
 j2 : ∀ x, x ∈ b → jmpB x = true → isJ b x.a.toNat → Never b x.a.toNat
 p1 : ∀ (k : Nat) (x y : Ins), b[k]? = some x → b[k + 1]? = some y → aimB b (k + 1) = false → ¬ (((((x.op = 1 ∨ x.op = 3) ∨ x.op = 22) ∨ x.op = 24) ∧ y.op = 2) ∨ (x.op = 1 ∧ (y.op = 13 ∨ y.op = 15)))
 p2 : ∀ (k : Nat) (x y z : Ins), b[k]? = some x → b[k + 1]? = some y → b[k + 2]? = some z → aimB b (k + 1) = false → aimB b (k + 2) = false → x.op = 1 → y.op = 1 → sumS z.op x.a y.a = none
def PlainC : Ctr where
 gh := 1
 pre us w := ∃ A c A' c', ∃ p : List Ins × List Int, us = [.p A, .n p.1.length, .n c, .p A', .n p.2.length, .n c', .g p] ∧ InsM w A p.1 ∧ Rd w w.heap.size 1 A' p.2.length (intV p.2) ∧ Plain p.1 p.2
 post _ os := os = [.b true]
 fact _ _ _ := True
theorem plain_get {A A' : Option Addr} {n c n' c' : Nat} {b : List Ins} {hs : List Int} {w : World} (h : PlainC.pre [.p A, .n n, .n c, .p A', .n n', .n c', .g (b, hs)] w) : InsM w A b ∧ Rd w w.heap.size 1 A' hs.length (intV hs) := by
 obtain ⟨B, e, B', e', p, he, h1, h2, _⟩ := h; simp only [List.cons.injEq, U.p.injEq, U.n.injEq, and_true] at he; obtain ⟨rfl, _, _, rfl, _, _, hg⟩ := he; cases hg; exact ⟨h1, h2⟩
theorem ints_nn {w : World} {B : Nat} {A : Option Addr} {hs : List Int} (h : Rd w B 1 A hs.length (intV hs)) {k : Nat} (hk : k < hs.length) : ¬ A.isNone = true ∧ LoadsAt w (A.map (·.add k)) [.int .i64 hs[k]] := by
 obtain ⟨g, o, rfl, _⟩ := h.2 (by omega); refine ⟨by simp, loadsR h (by omega) fun j v hv => ?_⟩; exact intV_at (List.getElem?_eq_getElem hk) j v hv
def aimU (b : List Ins) (j : Nat) : List Bool := (List.range (b.length + 1)).map fun k => aimB (b.take j) k
theorem aimU_len (b : List Ins) (j : Nat) : (aimU b j).length = b.length + 1 := by simp [aimU]
theorem aimU_zero (b : List Ins) : aimU b 0 = List.replicate (b.length + 1) false := by
 unfold aimU aimB; simp [List.map_const']
theorem aimU_at (b : List Ins) (j : Nat) {k : Nat} (hk : k < b.length + 1) : (aimU b j)[k]? = some (aimB (b.take j) k) := by
 unfold aimU; rw [List.getElem?_map, List.getElem?_range hk]; rfl
theorem aimU_skip {b : List Ins} {j : Nat} (hj : j < b.length) (h : jmpB b[j] = false) : aimU b (j + 1) = aimU b j := by
 unfold aimU; refine List.map_congr_left fun k _ => ?_
 rw [List.take_succ_eq_append_getElem hj, aimB_snoc, h, Bool.false_and, Bool.or_false]
theorem aimU_set {b : List Ins} {j : Nat} (hj : j < b.length) (h : jmpB b[j] = true) (h0 : 0 ≤ b[j].a) : aimU b (j + 1) = (aimU b j).set b[j].a.toNat true := by
 apply List.ext_getElem?; intro k; rw [List.getElem?_set, aimU_len]
 rcases Nat.lt_or_ge k (b.length + 1) with hk | hk
 ·rw [aimU_at b _ hk, aimU_at b _ hk, List.take_succ_eq_append_getElem hj, aimB_snoc, h, Bool.true_and]
  by_cases e : b[j].a.toNat = k
  ·rw [if_pos e, if_pos (by omega), decide_eq_true (by omega), Bool.or_true]
  ·rw [if_neg e, decide_eq_false (by omega), Bool.or_false]
 ·rw [List.getElem?_eq_none (by rw [aimU_len]; exact hk), List.getElem?_eq_none (by rw [aimU_len]; exact hk)]; split
  ·next e => rw [if_neg (by omega)]
  ·rfl
def cfg_plain : Cfg := { con := [(21, 1), (22, 0)], own := 1, loops := [(3, { slots := [6, 5], rows := [17] }), (8, { slots := [7] })] }
set_option maxHeartbeats 4000000 in
def vcd_plain : { v : VC // vcOfP Try.prog cfg_plain [] 9 = v } := by refine ⟨?v, ?h⟩; rotate_left; conv => lhs; reduce
theorem vce_plain : vcOf Try.prog cfg_plain 9 = vcd_plain.1 := by kernel_rfl
theorem plain_keeps : Keeps Try.prog 9 PlainC := by
 refine keeps_v Try.func9 cfg_plain vce_plain [.p, .n, .n, .p, .n, .n, .g] PlainC [(21, RoundC), (22, RSumC)] ⟨round_keeps, rsum_keeps, trivial⟩ (by kernel_rfl) (fun _ _ _ h hb => by
  obtain ⟨A, c, A', c', p, h1, h2, h3, h4⟩ := h; exact ⟨A, c, A', c', p, h1, h2.on hb, Rd.more (Rd.below h3 hb) hb.size, h4⟩) ?_
 intro x0 x1 x2 x3 x4 x5 α x6 w hp; have hp : PlainC.pre [.p x0, .n x1, .n x2, .p x3, .n x4, .n x5, .g x6] w := hp; obtain ⟨A, c, A', c', ⟨b, hs⟩, he, hI, hB, hP⟩ := hp; simp only [List.cons.injEq, U.p.injEq, U.n.injEq, and_true] at he; obtain ⟨rfl, rfl, rfl, rfl, rfl, rfl, hg⟩ := he; cases hg; simp only at hI hB hP; have hl := hP.small; have hW := hP.within; have hln := hP.len; refine ⟨[(3, { inv := fun v => ∃ j : Nat, j ≤ b.length ∧ v = [.n (b.length + 1), .l ((aimU b j).map Value.bool), .i j], mea := fun v => match v with | [_, _, .i i] => b.length - i.toNat | _ => 0 }), (8, { inv := fun v => ∃ j : Nat, j ≤ b.length ∧ v = [.i j], mea := fun v => match v with | [.i i] => b.length - i.toNat | _ => 0 })], vc_use ?Q ?h ?g⟩
 case h => intro O C s I b; conv => lhs; reduce
 dsimp only [std]; simp only [ctrOf, invOf, List.lookup, Nat.reduceBEq, Option.getD_some, Int.reduceOfNat, Int.reduceNegSucc]; have e1 : ((b.length : Int) + 1).toNat = b.length + 1 := by omega
 rw [e1]; refine ⟨by omega, by omega, by omega, by omega, ⟨0, Nat.zero_le _, by rw [aimU_zero, List.map_replicate]; rfl⟩, fun _ _ => trivial, ?_⟩; rintro m xs i ⟨j, hj, he⟩; simp only [List.cons.injEq, U.n.injEq, U.l.injEq, U.i.injEq, and_true] at he; obtain ⟨rfl, rfl, rfl⟩ := he; refine ⟨fun hlt => ?_, fun hge => ?_⟩
 ·have hlt : j < b.length := by omega
  have e2 : ((j : Int) + 1).toNat = j + 1 := by omega
  simp only [e2, Int.toNat_natCast, bo_set, List.length_map, aimU_len]; have hj2 := fun h => hW _ (List.getElem_mem hlt) h
  have set1 : jmpB b[j] = true → ∃ j' : Nat, j' ≤ b.length ∧ [U.n (b.length + 1), .l (((aimU b j).set b[j].a.toNat true).map Value.bool), .i ((j : Int) + 1)] = [.n (b.length + 1), .l ((aimU b j').map Value.bool), .i j'] := fun h => by
   refine ⟨j + 1, hlt, ?_⟩; rw [aimU_set hlt h (hj2 h).1]; rfl
  refine ⟨fun w h => (plain_get h.1).1.nn hlt, by omega, b[j].op, fun w h => (plain_get h.1).1.ld0 hlt, fun h14 => ?_, fun h14 => ⟨b[j].op, fun w h => (plain_get h.1).1.ld0 hlt, fun h15 => ?_, fun h15 => ?_⟩⟩
  ·have hjm : jmpB b[j] = true := jmpB_iff.2 (.inl h14); have := hj2 hjm; exact ⟨b[j].a, fun w h => (plain_get h.1).1.ld1 hlt, by omega, by omega, by omega, by omega, set1 hjm, fun _ _ => trivial, by omega, trivial⟩
  ·have hjm : jmpB b[j] = true := jmpB_iff.2 (.inr h15); have := hj2 hjm; exact ⟨b[j].a, fun w h => (plain_get h.1).1.ld1 hlt, by omega, by omega, by omega, by omega, set1 hjm, fun _ _ => trivial, by omega, trivial⟩
  ·have hjm : jmpB b[j] = false := by
    cases e : jmpB b[j] with
    | false => rfl
    | true => rcases jmpB_iff.1 e with h | h; exact absurd h h14; exact absurd h h15
   refine ⟨by omega, ⟨j + 1, hlt, ?_⟩, fun _ _ => trivial, by omega, trivial⟩; rw [aimU_skip hlt hjm]; rfl
 ·obtain rfl : j = b.length := by omega
  refine ⟨⟨0, Nat.zero_le _, rfl⟩, fun _ _ => trivial, ?_⟩; rintro i ⟨j, hj, he⟩; simp only [List.cons.injEq, U.i.injEq, and_true] at he; subst he; have e2 : ((j : Int) + 1).toNat = j + 1 := by omega
  have e3 : ((j : Int) + 2).toNat = j + 2 := by omega
  simp only [e2, e3, Int.toNat_natCast]; refine ⟨fun hlt => ?_, fun _ => ⟨rfl, fun _ _ => trivial⟩⟩; have hlt : j < b.length := by omega
  have hlh : j < hs.length := by omega
  have g0 : b[j]? = some b[j] := List.getElem?_eq_getElem hlt; have h0 := hP.hgt j _ (List.getElem?_eq_getElem hlh); have hj1 := hP.j1 j _ g0; have hjw := fun h => hW _ (List.getElem_mem hlt) h
  have nx : ∃ j' : Nat, j' ≤ b.length ∧ [U.i ((j : Int) + 1)] = [.i (j' : Int)] := ⟨j + 1, hlt, rfl⟩
  have nz : b.length - (j + 1) < b.length - j := by omega
  have au : ∀ k, k < b.length + 1 → ∀ i v, [Value.bool (aimB b k)][i]? = some v → ((aimU b b.length).map Value.bool)[k + i]? = some v := fun k hk => by
   have e := aimU_at b b.length hk; rw [List.take_length] at e; exact bo_at e
  have hjo : ∀ h : jmpB b[j] = true, ∃ hk : b[j].a.toNat < b.length, 0 ≤ b[j].a ∧ (b[b[j].a.toNat].op = 14 → Never b b[j].a.toNat) := fun h => by
   obtain ⟨k0, k1⟩ := hjw h; exact ⟨k1, k0, fun h14 => hP.j2 _ (List.getElem_mem hlt) h ((isJ_op k1).2 h14)⟩
  refine ⟨fun w h => (plain_get h.1.1).1.nn hlt, by omega, b[j].op, b[j].a, b[j].b, fun w h => (plain_get h.1.1).1.ld hlt, fun w h => (ints_nn (plain_get h.1.1).2 hlh).1, by omega, hs[j], fun w h => (ints_nn (plain_get h.1.1).2 hlh).2, fun h => absurd h (by omega), fun _ => ⟨fun h14 => ⟨by omega, fun h => absurd h (hj1 h14), fun _ => ⟨fun hj => ?_, fun h => absurd h (by omega)⟩⟩, fun h14 => ⟨fun hj => ?_, fun hj => ?_⟩⟩⟩
  ·have hjm : jmpB b[j] = true := jmpB_iff.2 (.inl h14); obtain ⟨k1, k0, hnv⟩ := hjo hjm; refine ⟨k0, by omega, b[b[j].a.toNat].op, fun w h => (plain_get h.1.1).1.ld0 k1, fun h15 => ?_, fun h15 => ?_⟩
   ·refine ⟨List Ins, b, fun w h => ⟨x0, x2, b, b[j].a.toNat, by rw [Int.toNat_of_nonneg k0], (plain_get h.1.1).1, hW, hl, hnv h15⟩, fun q hq => ?_⟩; have hq : [U.b q] = [.b true] := hq; simp only [List.cons.injEq, U.b.injEq, and_true] at hq; subst hq; refine ⟨fun h => absurd rfl h, fun _ => ?_⟩; refine ⟨fun hN => ⟨nx, fun _ _ => trivial, nz, trivial⟩, fun hN => ?_⟩; have hj1' : j + 1 < b.length := by omega
    have g1 : b[j + 1]? = some b[j + 1] := List.getElem?_eq_getElem hj1'; refine ⟨by omega, by omega, aimB b (j + 1), au (j + 1) (by omega), fun ha => ⟨nx, fun _ _ => trivial, nz, trivial⟩, fun ha => ?_⟩; have ha : aimB b (j + 1) = false := by simpa using ha
    have hp1 := hP.p1 j _ _ g0 g1 ha; refine ⟨by omega, b[j + 1].op, b[j + 1].a, b[j + 1].b, fun w h => (plain_get (by first | exact h.1.1 | exact h.1.1.1)).1.ld hj1', fun hb => absurd hb hp1, fun _ => ⟨fun hpp => ⟨by omega, fun h2 => ?_, fun h2 => ⟨nx, fun _ _ => trivial, nz, trivial⟩⟩, fun _ => ⟨nx, fun _ _ => trivial, nz, trivial⟩⟩⟩; have hj2 : j + 2 < b.length := by omega
    have g2 : b[j + 2]? = some b[j + 2] := List.getElem?_eq_getElem hj2; refine ⟨by omega, by omega, aimB b (j + 2), au (j + 2) (by omega), fun ha2 => ?_, fun ha2 => ⟨nx, fun _ _ => trivial, nz, trivial⟩⟩; have ha2 : aimB b (j + 2) = false := by simpa using ha2
    have hp2 := hP.p2 j _ _ _ g0 g1 g2 ha ha2 hpp.1 hpp.2; refine ⟨b[j + 2].op, fun w h => (plain_get (by first | exact h.1.1 | exact h.1.1.1)).1.ld0 hj2, fun _ _ => ⟨hP.num _ (List.getElem_mem hlt) hpp.1, hP.num _ (List.getElem_mem hj1') hpp.2⟩, fun n t hs => ⟨fun hb => ?_, fun _ => ⟨nx, fun _ _ => trivial, nz, trivial⟩⟩⟩; obtain ⟨n', t', e, hs⟩ := hs; simp only [List.cons.injEq, U.i.injEq, U.b.injEq, and_true] at e; obtain ⟨rfl, rfl⟩ := e; have hs := hs hb.1.1 hb.1.2; rw [hp2, hb.2] at hs; cases hs
   ·skip
    refine ⟨fun hN => ⟨nx, fun _ _ => trivial, nz, trivial⟩, fun hN => ?_⟩; have hj1' : j + 1 < b.length := by omega
    have g1 : b[j + 1]? = some b[j + 1] := List.getElem?_eq_getElem hj1'; refine ⟨by omega, by omega, aimB b (j + 1), au (j + 1) (by omega), fun ha => ⟨nx, fun _ _ => trivial, nz, trivial⟩, fun ha => ?_⟩; have ha : aimB b (j + 1) = false := by simpa using ha
    have hp1 := hP.p1 j _ _ g0 g1 ha; refine ⟨by omega, b[j + 1].op, b[j + 1].a, b[j + 1].b, fun w h => (plain_get (by first | exact h.1.1 | exact h.1.1.1)).1.ld hj1', fun hb => absurd hb hp1, fun _ => ⟨fun hpp => ⟨by omega, fun h2 => ?_, fun h2 => ⟨nx, fun _ _ => trivial, nz, trivial⟩⟩, fun _ => ⟨nx, fun _ _ => trivial, nz, trivial⟩⟩⟩; have hj2 : j + 2 < b.length := by omega
    have g2 : b[j + 2]? = some b[j + 2] := List.getElem?_eq_getElem hj2; refine ⟨by omega, by omega, aimB b (j + 2), au (j + 2) (by omega), fun ha2 => ?_, fun ha2 => ⟨nx, fun _ _ => trivial, nz, trivial⟩⟩; have ha2 : aimB b (j + 2) = false := by simpa using ha2
    have hp2 := hP.p2 j _ _ _ g0 g1 g2 ha ha2 hpp.1 hpp.2; refine ⟨b[j + 2].op, fun w h => (plain_get (by first | exact h.1.1 | exact h.1.1.1)).1.ld0 hj2, fun _ _ => ⟨hP.num _ (List.getElem_mem hlt) hpp.1, hP.num _ (List.getElem_mem hj1') hpp.2⟩, fun n t hs => ⟨fun hb => ?_, fun _ => ⟨nx, fun _ _ => trivial, nz, trivial⟩⟩⟩; obtain ⟨n', t', e, hs⟩ := hs; simp only [List.cons.injEq, U.i.injEq, U.b.injEq, and_true] at e; obtain ⟨rfl, rfl⟩ := e; have hs := hs hb.1.1 hb.1.2; rw [hp2, hb.2] at hs; cases hs
  ·have hjm : jmpB b[j] = true := jmpB_iff.2 hj; obtain ⟨k1, k0, hnv⟩ := hjo hjm; refine ⟨k0, by omega, b[b[j].a.toNat].op, fun w h => (plain_get h.1.1).1.ld0 k1, fun h15 => ?_, fun h15 => ⟨by omega, ?_⟩⟩
   ·refine ⟨List Ins, b, fun w h => ⟨x0, x2, b, b[j].a.toNat, by rw [Int.toNat_of_nonneg k0], (plain_get h.1.1).1, hW, hl, hnv h15⟩, fun q hq => ?_⟩; have hq : [U.b q] = [.b true] := hq; simp only [List.cons.injEq, U.b.injEq, and_true] at hq; subst hq; refine ⟨fun h => absurd rfl h, fun _ => ⟨by omega, ?_⟩⟩; refine ⟨fun hN => ⟨nx, fun _ _ => trivial, nz, trivial⟩, fun hN => ?_⟩; have hj1' : j + 1 < b.length := by omega
    have g1 : b[j + 1]? = some b[j + 1] := List.getElem?_eq_getElem hj1'; refine ⟨by omega, by omega, aimB b (j + 1), au (j + 1) (by omega), fun ha => ⟨nx, fun _ _ => trivial, nz, trivial⟩, fun ha => ?_⟩; have ha : aimB b (j + 1) = false := by simpa using ha
    have hp1 := hP.p1 j _ _ g0 g1 ha; refine ⟨by omega, b[j + 1].op, b[j + 1].a, b[j + 1].b, fun w h => (plain_get (by first | exact h.1.1 | exact h.1.1.1)).1.ld hj1', fun hb => absurd hb hp1, fun _ => ⟨fun hpp => ⟨by omega, fun h2 => ?_, fun h2 => ⟨nx, fun _ _ => trivial, nz, trivial⟩⟩, fun _ => ⟨nx, fun _ _ => trivial, nz, trivial⟩⟩⟩; have hj2 : j + 2 < b.length := by omega
    have g2 : b[j + 2]? = some b[j + 2] := List.getElem?_eq_getElem hj2; refine ⟨by omega, by omega, aimB b (j + 2), au (j + 2) (by omega), fun ha2 => ?_, fun ha2 => ⟨nx, fun _ _ => trivial, nz, trivial⟩⟩; have ha2 : aimB b (j + 2) = false := by simpa using ha2
    have hp2 := hP.p2 j _ _ _ g0 g1 g2 ha ha2 hpp.1 hpp.2; refine ⟨b[j + 2].op, fun w h => (plain_get (by first | exact h.1.1 | exact h.1.1.1)).1.ld0 hj2, fun _ _ => ⟨hP.num _ (List.getElem_mem hlt) hpp.1, hP.num _ (List.getElem_mem hj1') hpp.2⟩, fun n t hs => ⟨fun hb => ?_, fun _ => ⟨nx, fun _ _ => trivial, nz, trivial⟩⟩⟩; obtain ⟨n', t', e, hs⟩ := hs; simp only [List.cons.injEq, U.i.injEq, U.b.injEq, and_true] at e; obtain ⟨rfl, rfl⟩ := e; have hs := hs hb.1.1 hb.1.2; rw [hp2, hb.2] at hs; cases hs
   ·skip
    refine ⟨fun hN => ⟨nx, fun _ _ => trivial, nz, trivial⟩, fun hN => ?_⟩; have hj1' : j + 1 < b.length := by omega
    have g1 : b[j + 1]? = some b[j + 1] := List.getElem?_eq_getElem hj1'; refine ⟨by omega, by omega, aimB b (j + 1), au (j + 1) (by omega), fun ha => ⟨nx, fun _ _ => trivial, nz, trivial⟩, fun ha => ?_⟩; have ha : aimB b (j + 1) = false := by simpa using ha
    have hp1 := hP.p1 j _ _ g0 g1 ha; refine ⟨by omega, b[j + 1].op, b[j + 1].a, b[j + 1].b, fun w h => (plain_get (by first | exact h.1.1 | exact h.1.1.1)).1.ld hj1', fun hb => absurd hb hp1, fun _ => ⟨fun hpp => ⟨by omega, fun h2 => ?_, fun h2 => ⟨nx, fun _ _ => trivial, nz, trivial⟩⟩, fun _ => ⟨nx, fun _ _ => trivial, nz, trivial⟩⟩⟩; have hj2 : j + 2 < b.length := by omega
    have g2 : b[j + 2]? = some b[j + 2] := List.getElem?_eq_getElem hj2; refine ⟨by omega, by omega, aimB b (j + 2), au (j + 2) (by omega), fun ha2 => ?_, fun ha2 => ⟨nx, fun _ _ => trivial, nz, trivial⟩⟩; have ha2 : aimB b (j + 2) = false := by simpa using ha2
    have hp2 := hP.p2 j _ _ _ g0 g1 g2 ha ha2 hpp.1 hpp.2; refine ⟨b[j + 2].op, fun w h => (plain_get (by first | exact h.1.1 | exact h.1.1.1)).1.ld0 hj2, fun _ _ => ⟨hP.num _ (List.getElem_mem hlt) hpp.1, hP.num _ (List.getElem_mem hj1') hpp.2⟩, fun n t hs => ⟨fun hb => ?_, fun _ => ⟨nx, fun _ _ => trivial, nz, trivial⟩⟩⟩; obtain ⟨n', t', e, hs⟩ := hs; simp only [List.cons.injEq, U.i.injEq, U.b.injEq, and_true] at e; obtain ⟨rfl, rfl⟩ := e; have hs := hs hb.1.1 hb.1.2; rw [hp2, hb.2] at hs; cases hs
  ·refine ⟨by omega, ?_⟩; refine ⟨fun hN => ⟨nx, fun _ _ => trivial, nz, trivial⟩, fun hN => ?_⟩; have hj1' : j + 1 < b.length := by omega
   have g1 : b[j + 1]? = some b[j + 1] := List.getElem?_eq_getElem hj1'; refine ⟨by omega, by omega, aimB b (j + 1), au (j + 1) (by omega), fun ha => ⟨nx, fun _ _ => trivial, nz, trivial⟩, fun ha => ?_⟩; have ha : aimB b (j + 1) = false := by simpa using ha
   have hp1 := hP.p1 j _ _ g0 g1 ha; refine ⟨by omega, b[j + 1].op, b[j + 1].a, b[j + 1].b, fun w h => (plain_get (by first | exact h.1.1 | exact h.1.1.1)).1.ld hj1', fun hb => absurd hb hp1, fun _ => ⟨fun hpp => ⟨by omega, fun h2 => ?_, fun h2 => ⟨nx, fun _ _ => trivial, nz, trivial⟩⟩, fun _ => ⟨nx, fun _ _ => trivial, nz, trivial⟩⟩⟩; have hj2 : j + 2 < b.length := by omega
   have g2 : b[j + 2]? = some b[j + 2] := List.getElem?_eq_getElem hj2; refine ⟨by omega, by omega, aimB b (j + 2), au (j + 2) (by omega), fun ha2 => ?_, fun ha2 => ⟨nx, fun _ _ => trivial, nz, trivial⟩⟩; have ha2 : aimB b (j + 2) = false := by simpa using ha2
   have hp2 := hP.p2 j _ _ _ g0 g1 g2 ha ha2 hpp.1 hpp.2; refine ⟨b[j + 2].op, fun w h => (plain_get (by first | exact h.1.1 | exact h.1.1.1)).1.ld0 hj2, fun _ _ => ⟨hP.num _ (List.getElem_mem hlt) hpp.1, hP.num _ (List.getElem_mem hj1') hpp.2⟩, fun n t hs => ⟨fun hb => ?_, fun _ => ⟨nx, fun _ _ => trivial, nz, trivial⟩⟩⟩; obtain ⟨n', t', e, hs⟩ := hs; simp only [List.cons.injEq, U.i.injEq, U.b.injEq, and_true] at e; obtain ⟨rfl, rfl⟩ := e; have hs := hs hb.1.1 hb.1.2; rw [hp2, hb.2] at hs; cases hs
end Go.Proofs.Ytgjbcahpgkchfaa
