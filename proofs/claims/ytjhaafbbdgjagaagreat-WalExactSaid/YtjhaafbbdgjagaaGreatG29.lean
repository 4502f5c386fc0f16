/- Of the texts Wr18, Wr18t, Wr19a, Wr19. -/
import Derived.Test.YtjhaafbbdgjagaaGreatProg
import Derived.Test.YtjhaafbbdgjagaaGreatG28
import Derived.Test.YtjhaafbbdgjagaaGreatG27
set_option linter.unusedSimpArgs false
set_option linter.unusedVariables false
namespace Go.Proofs.YtjhaafbbdgjagaaGreat
open Go.RowKit
theorem Ref.below {w w' : World} {g : Nat} {S : Out} (h : Ref w g S) (hb : Below w.heap.size w w') : Ref w' g S := by
 have hg := h.lt; obtain ⟨l, o, hB, r⟩ := h; exact ⟨l, o, hB.below hb hg, r⟩
theorem Turned.ofBelow {a w w' : World} {g : Nat} (h : Turned a w g) (hb : Below w.heap.size w w') (hg : g ≤ w.heap.size) : Turned a w' g := h.trans ⟨hb.mono hg, fun k hk _ _ => hb.block k hk⟩
def inB (k : Int) (l : List Int) : Bool := l.any fun y => y == k
theorem inB_stop (k : Int) (l : List Int) (i : Nat) (h : i < l.length) (e : l[i] = k) : inB k l = true := by
 unfold inB; rw [List.any_eq_true]; exact ⟨l[i], List.getElem_mem h, by simp [e]⟩
theorem inB_none (k : Int) (l : List Int) (h : ∀ i (hi : i < l.length), l[i] ≠ k) : inB k l = false := by
 unfold inB; rw [List.any_eq_false]; intro x hx; obtain ⟨i, hi, rfl⟩ := List.getElem_of_mem hx; simpa using h i hi
set_option maxRecDepth 100000 in
theorem rin_any (k : Int) (l : List Int) (c q : Nat) (w : World) (hq : Blk w q 3 (l.map (Value.int .i64)).toArray) (hl : l.length ≤ 100) :
  Calls Tryz.prog 189 #[.int .i64 k, .slice (some ⟨q, 0, none⟩) l.length c] w fun e w' => e = .returned (.bool (inB k l)) ∧ w = w' := by
 go_enter Tryz.func189, Tryz.ntmps189; go_wp2
 go_loop [5] (fun i => ∃ j : Nat, i = .int .i64 (j : Int) ∧ j ≤ l.length ∧ ∀ i (hi : i < l.length), i < j → l[i] ≠ k) (fun i => l.length - (intOf i).toNat)
 case atStart => exact ⟨0, rfl, by omega, fun i _ h => absurd h (by omega)⟩
 case round =>
  obtain ⟨j, rfl, hj, hno⟩ := hrel; have HN := Lib.hid hno; clear hno
  by_cases hlt : j < l.length
  ·have hji : (j : Int) < (l.length : Int) := by omega
   have c0 : w.cell? ⟨q, j, none⟩ = some (.int .i64 l[j]) := (hq.cell j).trans (by simp [List.getElem?_eq_getElem hlt])
   by_cases he : l[j] = k
   ·have hb : (l[j] == k) = true := by simp [he]
    have HR := Lib.hid (inB_stop k l j hlt he); clear he; go_wp2_with fail; go_ret; exact ⟨by rw [HR.out]; rfl, rfl⟩
   ·have hb : (l[j] == k) = false := by simp [he]
    have HE := Lib.hid he; clear he; go_wp2_with fail
    go_round
    case rel => exact ⟨j + 1, by go_num, by omega, fun i hi h => by
     by_cases hij : i = j
     ·subst hij; exact HE.out
     ·exact HN.out i hi (by omega)⟩
    case measure => simp [intOf]; omega
  ·have hji : ¬ (j : Int) < (l.length : Int) := by omega
   have HR := Lib.hid (inB_none k l fun i hi => HN.out i hi (by omega)); go_wp2_with fail; go_ret; exact ⟨by rw [HR.out]; rfl, rfl⟩
theorem in_to (k : Int) : inB k [1, 3, 7, 8] = toF k := by
 simp only [inB, toF, List.any_cons, List.any_nil, Bool.or_false]; rw [Bool.eq_iff_iff]; simp; omega
theorem in_am (k : Int) : (toF k || inB k [2, 4, 5]) = amountF k := by
 simp only [inB, amountF, List.any_cons, List.any_nil, Bool.or_false]; rw [Bool.eq_iff_iff]; simp
 grind
theorem far_num (S : Out) (n : Int) (h : (S.num n).far = false) : S.far = false := by
 have : (S.far || farN n) = false := h; simp only [Bool.or_eq_false_iff] at this; exact this.1
theorem far_lim (S : Out) (n m : Int) (h : (S.lim n m).far = false) : S.far = false := by
 have : (S.far || decide (m < n)) = false := h; simp only [Bool.or_eq_false_iff] at this; exact this.1
theorem far_fold {α : Type} (f : Out → α → Out) (hf : ∀ S x, (f S x).far = false → S.far = false) (l : List α) (S : Out) (h : (l.foldl f S).far = false) : S.far = false := by
 induction l generalizing S with
 | nil => exact h
 | cons x l ih => exact hf _ _ (ih _ h)
theorem far_list {α : Type} (f : Out → α → Out) (hf : ∀ S x, (f S x).far = false → S.far = false) (l : List α) (m : Int) (S : Out) (h : (S.list l m f).far = false) : S.far = false :=
 far_lim _ _ _ (far_num _ _ (far_fold f hf l _ h))
theorem far_text (S : Out) (s : List UInt8) (m : Int) (h : (S.text s m).far = false) : S.far = false := far_lim _ _ _ (far_num _ _ h)
theorem far_seat (S : Out) (x : Seat) (h : (S.seat x).far = false) : S.far = false := far_num _ _ (far_num _ _ h)
theorem far_turn (S : Out) (x : TurnD) (h : (S.turn x).far = false) : S.far = false := far_num _ _ (far_lim _ _ _ h)
theorem far_header (S : Out) (x : HeaderD) (h : (S.header x).far = false) : S.far = false := far_num _ _ (far_num _ _ (far_num _ _ h))
theorem far_cert (S : Out) (x : CertD) (h : (S.cert x).far = false) : S.far = false := by
 have h1 : ((((S.nums [x.h, x.r, x.s]).flag x.has).dig x.b).list x.froms 7 Out.num).far = false := h; have h3 : (((S.nums [x.h, x.r, x.s]).flag x.has).dig x.b).far = false := far_list Out.num far_num _ _ _ h1; have h2 : (((S.num x.h).num x.r).num x.s).far = false := h3; exact far_num _ _ (far_num _ _ (far_num _ _ h2))
theorem far_bench (S : Out) (l : List Seat) (h : (S.bench l).far = false) : S.far = false := far_list Out.seat far_seat _ _ _ h
theorem far_sight (S : Out) (x : SightD) (h : (S.sight x).far = false) : S.far = false := far_header _ _ (far_cert _ _ (far_bench _ _ h))
theorem far_proof (S : Out) (x : ProofD) (h : (S.proof x).far = false) : S.far = false := by
 have h1 : ((((S.list x.turns 288 Out.turn).flag x.leaf).text x.key 32).text x.value 4096).far = false := h; have h2 : ((S.list x.turns 288 Out.turn).flag x.leaf).far = false := far_text _ _ _ (far_text _ _ _ h1); have h3 : (S.list x.turns 288 Out.turn).far = false := h2; exact far_list Out.turn far_turn _ _ _ h3
def txBase (S : Out) (x : TxD) : Out := ((((S.nums [x.k, x.f, x.n, x.p, x.l, x.t, x.a]).text x.text 2048).list x.args 8 Out.num).list x.sights 1 Out.sight).list x.proofs 1 Out.proof
theorem txBase_far (S : Out) (x : TxD) (h : (txBase S x).far = false) : 0 ≤ x.t := by
 have h1 := far_text _ _ _ (far_list Out.num far_num _ _ _ (far_list Out.sight far_sight _ _ _ (far_list Out.proof far_proof _ _ _ h))); have h2 : ((((((S.num x.k).num x.f).num x.n).num x.p).num x.l).num x.t).far = false := far_num _ _ h1; have h3 : (((((S.num x.k).num x.f).num x.n).num x.p).num x.l).far = false ∧ farN x.t = false := by
  have : ((((((S.num x.k).num x.f).num x.n).num x.p).num x.l).far || farN x.t) = false := h2; simpa using this
 have h4 := h3.2; simp [farN] at h4; exact h4.1
def rtx1 (x : TxD) : Bool := !(decide (x.k < 1) || decide (10 < x.k) || decide (x.f < 1))
def rtx2 (x : TxD) : Bool := !((toF x.k && decide (x.t < 1)) || (!toF x.k && !decide (x.t = 0)))
def rtx3 (x : TxD) : Bool := !(!amountF x.k && !decide (x.a = 0))
def rtx4 (x : TxD) : Bool := !((!decide (x.k = 2) && !decide (x.k = 3)) && !emp x.text)
def rtx5 (x : TxD) : Bool := !(!decide (x.k = 3) && decide (0 < x.args.length))
def rtx6 (x : TxD) : Bool := (decide (x.k = 9) == decide (x.sights.length = 1))
def rtx7 (x : TxD) : Bool := (decide (x.k = 10) == decide (x.proofs.length = 1))
theorem rtx_ok (x : TxD) (h : 0 ≤ x.t) : (rtx1 x && rtx2 x && rtx3 x && rtx4 x && rtx5 x && rtx6 x && rtx7 x) = (txOk1 x && txOk2 x && txOk3 x) := by
 have h1 : rtx1 x = (decide (1 ≤ x.k) && decide (x.k ≤ 10) && decide (1 ≤ x.f)) := by
  unfold rtx1; rw [Bool.eq_iff_iff]; simp <;> omega
 have h2 : rtx2 x = (toF x.k == decide (1 ≤ x.t)) := by
  unfold rtx2; cases toF x.k
  ·rw [Bool.eq_iff_iff]; simp <;> omega
  ·rw [Bool.eq_iff_iff]; simp <;> omega
 have h3 : rtx3 x = (amountF x.k || decide (x.a = 0)) := by unfold rtx3; cases amountF x.k <;> simp
 have h4 : rtx4 x = (textF x.k || emp x.text) := by unfold rtx4 textF; cases emp x.text <;> simp
 have h5 : rtx5 x = (argsF x.k || decide (x.args.length = 0)) := by
  unfold rtx5 argsF
  by_cases hk : x.k = 3
  ·simp [hk]
  ·simp [hk]; rw [Bool.eq_iff_iff]; simp [List.length_pos_iff]
 have h6 : rtx6 x = (sightF x.k == decide (x.sights.length = 1)) := rfl; have h7 : rtx7 x = (proofF x.k == decide (x.proofs.length = 1)) := rfl; rw [h1, h2, h3, h4, h5, h6, h7]; unfold txOk1 txOk2 txOk3; simp only [Bool.and_assoc]
theorem Out.tx_eq {w : World} {g : Nat} {S : Out} (x : TxD) (h : Ref w g ((((((((txBase S x).need (rtx1 x)).need (rtx2 x)).need (rtx3 x)).need (rtx4 x)).need (rtx5 x)).need (rtx6 x)).need (rtx7 x))) : Ref w g (S.tx x) := by
 rw [Out.need_need, Out.need_need, Out.need_need, Out.need_need, Out.need_need, Out.need_need] at h; refine h.ifNear rfl (Nat.le_refl _) fun hf => ⟨rfl, ?_⟩
 have h0 := txBase_far S x hf; have h1 := rtx_ok x h0; have e : S.tx x = (txBase S x).need (txOk1 x && txOk2 x && txOk3 x) := by
  rw [← Out.need_need, ← Out.need_need]; rfl
 rw [e, ← h1]; simp only [Bool.and_assoc]
set_option maxRecDepth 100000 in
set_option maxHeartbeats 8000000 in
theorem rtx_any (x : TxD) (B : Nat) (w : World) (g : Nat) (S : Out) (h : Ref w g S) (hl : S.b.length + 40 * txM x ≤ 58999999970000) (hx : x.held w B) (hB : B ≤ g) :
    Calls Tryz.prog 106 #[.pointer (some ⟨g, 0, none⟩), x.val] w fun e w' => e = .returned (.tuple #[]) ∧ Ref w' g (S.tx x) ∧ Turned w w' g := by
  have hgt := h.lt
  simp only [txM] at hl
  obtain ⟨x1, x2, x3, x4, x5, x6, x7, x8, al, aA, ac, ss, sA, sc, ps, pA, pc⟩ := x
  have hEQ := fun w' => @Out.tx_eq w' g S ⟨x1, x2, x3, x4, x5, x6, x7, x8, al, aA, ac, ss, sA, sc, ps, pA, pc⟩
  simp only [txBase, Out.list, Out.nums, List.foldl_cons, List.foldl_nil] at hEQ
  have HEQ := Lib.hid hEQ
  clear hEQ
  dsimp only [TxD.val]
  obtain ⟨hxa, hxs, hxp, ⟨hs0, hs1, hs2⟩, hxq, hxo⟩ := hx
  dsimp only at hxa hxs hxp hs0 hs1 hs2 hxq hxo
  have hsw : sumL numW al = 6 * al.length := sumL_const 6 al
  have hsw1 := sights_W ss
  have hsw2 := proofs_W ps
  have hlA : ∀ S' : Out, (S'.lim al.length 8).b.length = S'.b.length := fun _ => rfl
  have hlS : ∀ S' : Out, (S'.lim ss.length 1).b.length = S'.b.length := fun _ => rfl
  have hlP : ∀ S' : Out, (S'.lim ps.length 1).b.length = S'.b.length := fun _ => rfl
  have HLA := Lib.hid hlA
  have HLS := Lib.hid hlS
  have HLP := Lib.hid hlP
  clear hlA hlS hlP
  unfold maxLen at hs0 hs1 hs2
  go_enter Tryz.func106, Tryz.ntmps106
  go_wp2_with fail
  generalize Value.agg #[.int .i64 x1, .int .i64 x2, .int .i64 x3, .int .i64 x4, .int .i64 x5, .int .i64 x6, .int .i64 x7, .string (bs x8), .slice aA al.length ac, .slice sA ss.length sc, .slice pA ps.length pc] = V
  refine (rnumber_any _ _ g _ (h.alloc _) (by omega)).mono ?_
  rintro e w1 ⟨rfl, hW1, hC1⟩
  have hB1 := hC1.blk (Blk.new _ _ _) (by omega) (by decide)
  have hT1 := ((Turned.refl w g).alloc (by omega) _).trans hC1
  have hlt1 := hB1.lt
  have hgl1 := hW1.lt
  have ll1 := S.num_len x1
  generalize S.num x1 = S1 at *
  have c1_0 := hB1.c 0 rfl
  have c1_1 := hB1.c 1 rfl
  have c1_2 := hB1.c 2 rfl
  have c1_3 := hB1.c 3 rfl
  have c1_4 := hB1.c 4 rfl
  have c1_5 := hB1.c 5 rfl
  have c1_6 := hB1.c 6 rfl
  have c1_7 := hB1.c 7 rfl
  have c1_8 := hB1.c 8 rfl
  have c1_9 := hB1.c 9 rfl
  have c1_10 := hB1.c 10 rfl
  go_wp2_with fail
  refine (rnumber_any _ _ g _ hW1 (by omega)).mono ?_
  rintro e w2 ⟨rfl, hW2, hC2⟩
  have hB2 := hC2.blk hB1 (by omega) (by decide)
  have hT2 := hT1.trans hC2
  have hlt2 := hB2.lt
  have hgl2 := hW2.lt
  have ll2 := S1.num_len x2
  generalize S1.num x2 = S2 at *
  have c2_0 := hB2.c 0 rfl
  have c2_1 := hB2.c 1 rfl
  have c2_2 := hB2.c 2 rfl
  have c2_3 := hB2.c 3 rfl
  have c2_4 := hB2.c 4 rfl
  have c2_5 := hB2.c 5 rfl
  have c2_6 := hB2.c 6 rfl
  have c2_7 := hB2.c 7 rfl
  have c2_8 := hB2.c 8 rfl
  have c2_9 := hB2.c 9 rfl
  have c2_10 := hB2.c 10 rfl
  go_wp2_with fail
  refine (rnumber_any _ _ g _ hW2 (by omega)).mono ?_
  rintro e w3 ⟨rfl, hW3, hC3⟩
  have hB3 := hC3.blk hB2 (by omega) (by decide)
  have hT3 := hT2.trans hC3
  have hlt3 := hB3.lt
  have hgl3 := hW3.lt
  have ll3 := S2.num_len x3
  generalize S2.num x3 = S3 at *
  have c3_0 := hB3.c 0 rfl
  have c3_1 := hB3.c 1 rfl
  have c3_2 := hB3.c 2 rfl
  have c3_3 := hB3.c 3 rfl
  have c3_4 := hB3.c 4 rfl
  have c3_5 := hB3.c 5 rfl
  have c3_6 := hB3.c 6 rfl
  have c3_7 := hB3.c 7 rfl
  have c3_8 := hB3.c 8 rfl
  have c3_9 := hB3.c 9 rfl
  have c3_10 := hB3.c 10 rfl
  go_wp2_with fail
  refine (rnumber_any _ _ g _ hW3 (by omega)).mono ?_
  rintro e w4 ⟨rfl, hW4, hC4⟩
  have hB4 := hC4.blk hB3 (by omega) (by decide)
  have hT4 := hT3.trans hC4
  have hlt4 := hB4.lt
  have hgl4 := hW4.lt
  have ll4 := S3.num_len x4
  generalize S3.num x4 = S4 at *
  have c4_0 := hB4.c 0 rfl
  have c4_1 := hB4.c 1 rfl
  have c4_2 := hB4.c 2 rfl
  have c4_3 := hB4.c 3 rfl
  have c4_4 := hB4.c 4 rfl
  have c4_5 := hB4.c 5 rfl
  have c4_6 := hB4.c 6 rfl
  have c4_7 := hB4.c 7 rfl
  have c4_8 := hB4.c 8 rfl
  have c4_9 := hB4.c 9 rfl
  have c4_10 := hB4.c 10 rfl
  go_wp2_with fail
  refine (rnumber_any _ _ g _ hW4 (by omega)).mono ?_
  rintro e w5 ⟨rfl, hW5, hC5⟩
  have hB5 := hC5.blk hB4 (by omega) (by decide)
  have hT5 := hT4.trans hC5
  have hlt5 := hB5.lt
  have hgl5 := hW5.lt
  have ll5 := S4.num_len x5
  generalize S4.num x5 = S5 at *
  have c5_0 := hB5.c 0 rfl
  have c5_1 := hB5.c 1 rfl
  have c5_2 := hB5.c 2 rfl
  have c5_3 := hB5.c 3 rfl
  have c5_4 := hB5.c 4 rfl
  have c5_5 := hB5.c 5 rfl
  have c5_6 := hB5.c 6 rfl
  have c5_7 := hB5.c 7 rfl
  have c5_8 := hB5.c 8 rfl
  have c5_9 := hB5.c 9 rfl
  have c5_10 := hB5.c 10 rfl
  go_wp2_with fail
  refine (rnumber_any _ _ g _ hW5 (by omega)).mono ?_
  rintro e w6 ⟨rfl, hW6, hC6⟩
  have hB6 := hC6.blk hB5 (by omega) (by decide)
  have hT6 := hT5.trans hC6
  have hlt6 := hB6.lt
  have hgl6 := hW6.lt
  have ll6 := S5.num_len x6
  generalize S5.num x6 = S6 at *
  have c6_0 := hB6.c 0 rfl
  have c6_1 := hB6.c 1 rfl
  have c6_2 := hB6.c 2 rfl
  have c6_3 := hB6.c 3 rfl
  have c6_4 := hB6.c 4 rfl
  have c6_5 := hB6.c 5 rfl
  have c6_6 := hB6.c 6 rfl
  have c6_7 := hB6.c 7 rfl
  have c6_8 := hB6.c 8 rfl
  have c6_9 := hB6.c 9 rfl
  have c6_10 := hB6.c 10 rfl
  go_wp2_with fail
  refine (rnumber_any _ _ g _ hW6 (by omega)).mono ?_
  rintro e w7 ⟨rfl, hW7, hC7⟩
  have hB7 := hC7.blk hB6 (by omega) (by decide)
  have hT7 := hT6.trans hC7
  have hlt7 := hB7.lt
  have hgl7 := hW7.lt
  have ll7 := S6.num_len x7
  generalize S6.num x7 = S7 at *
  have c7_0 := hB7.c 0 rfl
  have c7_1 := hB7.c 1 rfl
  have c7_2 := hB7.c 2 rfl
  have c7_3 := hB7.c 3 rfl
  have c7_4 := hB7.c 4 rfl
  have c7_5 := hB7.c 5 rfl
  have c7_6 := hB7.c 6 rfl
  have c7_7 := hB7.c 7 rfl
  have c7_8 := hB7.c 8 rfl
  have c7_9 := hB7.c 9 rfl
  have c7_10 := hB7.c 10 rfl
  go_wp2_with fail
  refine (rtext_any x8 2048 _ g _ hW7 (by omega)).mono ?_
  rintro e w8 ⟨rfl, hW8, hC8⟩
  have hB8 := hC8.blk hB7 (by omega) (by decide)
  have hT8 := hT7.trans hC8
  have hlt8 := hB8.lt
  have hgl8 := hW8.lt
  have ll8 := S7.text_len x8 2048
  generalize S7.text x8 2048 = S8 at *
  have c8_0 := hB8.c 0 rfl
  have c8_1 := hB8.c 1 rfl
  have c8_2 := hB8.c 2 rfl
  have c8_3 := hB8.c 3 rfl
  have c8_4 := hB8.c 4 rfl
  have c8_5 := hB8.c 5 rfl
  have c8_6 := hB8.c 6 rfl
  have c8_7 := hB8.c 7 rfl
  have c8_8 := hB8.c 8 rfl
  have c8_9 := hB8.c 9 rfl
  have c8_10 := hB8.c 10 rfl
  go_wp2_with fail
  refine (rcount_any _ _ _ g _ hW8 (by omega)).mono ?_
  rintro e w9 ⟨rfl, hW9, hC9⟩
  have hB9 := hC9.blk hB8 (by omega) (by decide)
  have hT9 := hT8.trans hC9
  have hlt9 := hB9.lt
  have hgl9 := hW9.lt
  have ll9 := (S8.lim al.length 8).num_len al.length
  rw [HLA.out] at ll9
  generalize (S8.lim al.length 8).num al.length = S9 at *
  have c9_0 := hB9.c 0 rfl
  have c9_1 := hB9.c 1 rfl
  have c9_2 := hB9.c 2 rfl
  have c9_3 := hB9.c 3 rfl
  have c9_4 := hB9.c 4 rfl
  have c9_5 := hB9.c 5 rfl
  have c9_6 := hB9.c 6 rfl
  have c9_7 := hB9.c 7 rfl
  have c9_8 := hB9.c 8 rfl
  have c9_9 := hB9.c 9 rfl
  have c9_10 := hB9.c 10 rfl
  go_wp2_with fail
  go_loopw [4] (fun i wr => ∃ j : Nat, i = .int .i64 (j : Int) ∧ j ≤ al.length ∧ Ref wr g ((al.take j).foldl Out.num S9) ∧ Blk wr w.heap.size 94 #[.int .i64 x1, .int .i64 x2, .int .i64 x3, .int .i64 x4, .int .i64 x5, .int .i64 x6, .int .i64 x7, .string (bs x8), .slice aA al.length ac, .slice sA ss.length sc, .slice pA ps.length pc] ∧ Turned w wr g) (fun i _ => al.length - (intOf i).toNat)
  case atStart => exact ⟨0, rfl, by omega, by simpa using hW9, hB9, hT9⟩
  case round =>
    obtain ⟨j10, rfl, hj10, hWx10, hBx10, hTx10⟩ := hrel
    have hgx10 := hWx10.lt
    have kx10 := hBx10.c 8 rfl
    by_cases hlt10 : j10 < al.length
    · as_aux_lemma =>
        have hji10 : (j10 : Int) < (al.length : Int) := by omega
        obtain ⟨b, off, rfl, hbB, hc⟩ := Ints.at_ (hTx10.rd hxa hB) hlt10
        have HSl := Lib.hid (fold_take Out.num S9 al j10 hlt10)
        have hle := fold_len Out.num numW Out.num_lenW (al.take j10) S9
        have hle2 := sumL_take numW al j10 hlt10
        generalize hxx : al[j10] = x at *
        clear hxx
        have d0 : wr.cell? ⟨b, off + j10, none⟩ = some (.int .i64 x) := hc
        go_wp2_with fail
        refine (rnumber_any x _ g _ hWx10 (by unfold numW at *; omega)).mono ?_
        rintro e w90 ⟨rfl, hW90, hC90⟩
        have hB90 := hC90.blk hBx10 (by omega) (by decide)
        go_wp2_with fail
        go_roundw
        case rel => exact ⟨j10 + 1, by go_num, by omega, by rw [HSl.out]; exact hW90, hB90, hTx10.trans hC90⟩
        case measure => simp [intOf]; omega
    have hji10 : ¬ (j10 : Int) < (al.length : Int) := by omega
    rw [List.take_of_length_le (by omega)] at hWx10
    have ll10 := fold_len Out.num numW Out.num_lenW al S9
    obtain ⟨w10, rfl⟩ : ∃ x : World, x = wr := ⟨_, rfl⟩
    obtain ⟨hW10, hB10, hT10⟩ : Ref w10 g (al.foldl Out.num S9) ∧ Blk w10 w.heap.size 94 #[.int .i64 x1, .int .i64 x2, .int .i64 x3, .int .i64 x4, .int .i64 x5, .int .i64 x6, .int .i64 x7, .string (bs x8), .slice aA al.length ac, .slice sA ss.length sc, .slice pA ps.length pc] ∧ Turned w w10 g := ⟨hWx10, hBx10, hTx10⟩
    clear hWx10 hBx10 hTx10 hlt10
    generalize al.foldl Out.num S9 = S10 at *
    have hlt10 := hB10.lt
    have hgl10 := hW10.lt
    have c10_0 := hB10.c 0 rfl
    have c10_1 := hB10.c 1 rfl
    have c10_2 := hB10.c 2 rfl
    have c10_3 := hB10.c 3 rfl
    have c10_4 := hB10.c 4 rfl
    have c10_5 := hB10.c 5 rfl
    have c10_6 := hB10.c 6 rfl
    have c10_7 := hB10.c 7 rfl
    have c10_8 := hB10.c 8 rfl
    have c10_9 := hB10.c 9 rfl
    have c10_10 := hB10.c 10 rfl
    go_wp2_with fail
    refine (rcount_any _ _ _ g _ hW10 (by omega)).mono ?_
    rintro e w11 ⟨rfl, hW11, hC11⟩
    have hB11 := hC11.blk hB10 (by omega) (by decide)
    have hT11 := hT10.trans hC11
    have hlt11 := hB11.lt
    have hgl11 := hW11.lt
    have ll11 := (S10.lim ss.length 1).num_len ss.length
    rw [HLS.out] at ll11
    generalize (S10.lim ss.length 1).num ss.length = S11 at *
    have c11_0 := hB11.c 0 rfl
    have c11_1 := hB11.c 1 rfl
    have c11_2 := hB11.c 2 rfl
    have c11_3 := hB11.c 3 rfl
    have c11_4 := hB11.c 4 rfl
    have c11_5 := hB11.c 5 rfl
    have c11_6 := hB11.c 6 rfl
    have c11_7 := hB11.c 7 rfl
    have c11_8 := hB11.c 8 rfl
    have c11_9 := hB11.c 9 rfl
    have c11_10 := hB11.c 10 rfl
    go_wp2_with fail
    go_loopw [5] (fun i wr => ∃ j : Nat, i = .int .i64 (j : Int) ∧ j ≤ ss.length ∧ Ref wr g ((ss.take j).foldl Out.sight S11) ∧ Blk wr w.heap.size 94 #[.int .i64 x1, .int .i64 x2, .int .i64 x3, .int .i64 x4, .int .i64 x5, .int .i64 x6, .int .i64 x7, .string (bs x8), .slice aA al.length ac, .slice sA ss.length sc, .slice pA ps.length pc] ∧ Turned w wr g) (fun i _ => ss.length - (intOf i).toNat)
    case atStart => exact ⟨0, rfl, by omega, by simpa using hW11, hB11, hT11⟩
    case round =>
      obtain ⟨j12, rfl, hj12, hWx12, hBx12, hTx12⟩ := hrel
      have hgx12 := hWx12.lt
      have kx12 := hBx12.c 9 rfl
      by_cases hlt12 : j12 < ss.length
      · as_aux_lemma =>
          have hji12 : (j12 : Int) < (ss.length : Int) := by omega
          obtain ⟨b, off, rfl, hbB, hc⟩ := SightsL.at_ (hTx12.rd hxs hB) hlt12
          have HSl := Lib.hid (fold_take Out.sight S11 ss j12 hlt12)
          have hle := fold_len Out.sight sightW Out.sight_len (ss.take j12) S11
          have hle2 := sumL_take sightW ss j12 hlt12
          have hx := (hxq ss[j12] (List.getElem_mem hlt12)).below (hTx12.low.mono hB)
          generalize hxx : ss[j12] = x at *
          clear hxx
          have d0 : wr.cell? ⟨b, off + j12 * 16, none⟩ = some (.int .i64 x.header.c) := hc 0 _ rfl
          have d1 : wr.cell? ⟨b, off + j12 * 16 + 1, none⟩ = some (.int .i64 x.header.h) := hc 1 _ rfl
          have d2 : wr.cell? ⟨b, off + j12 * 16 + 2, none⟩ = some (.int .u64 x.header.p) := hc 2 _ rfl
          have d3 : wr.cell? ⟨b, off + j12 * 16 + 3, none⟩ = some (.int .u64 x.header.t) := hc 3 _ rfl
          have d4 : wr.cell? ⟨b, off + j12 * 16 + 4, none⟩ = some (.int .u64 x.header.g) := hc 4 _ rfl
          have d5 : wr.cell? ⟨b, off + j12 * 16 + 5, none⟩ = some (.int .u64 x.header.s) := hc 5 _ rfl
          have d6 : wr.cell? ⟨b, off + j12 * 16 + 6, none⟩ = some (.int .u64 x.header.r) := hc 6 _ rfl
          have d7 : wr.cell? ⟨b, off + j12 * 16 + 7, none⟩ = some (.int .u64 x.header.b) := hc 7 _ rfl
          have d8 : wr.cell? ⟨b, off + j12 * 16 + 8, none⟩ = some (.int .i64 x.header.o) := hc 8 _ rfl
          have d9 : wr.cell? ⟨b, off + j12 * 16 + 9, none⟩ = some (.int .i64 x.cert.h) := hc 9 _ rfl
          have d10 : wr.cell? ⟨b, off + j12 * 16 + 10, none⟩ = some (.int .i64 x.cert.r) := hc 10 _ rfl
          have d11 : wr.cell? ⟨b, off + j12 * 16 + 11, none⟩ = some (.int .i64 x.cert.s) := hc 11 _ rfl
          have d12 : wr.cell? ⟨b, off + j12 * 16 + 12, none⟩ = some (.bool x.cert.has) := hc 12 _ rfl
          have d13 : wr.cell? ⟨b, off + j12 * 16 + 13, none⟩ = some (.int .u64 x.cert.b) := hc 13 _ rfl
          have d14 : wr.cell? ⟨b, off + j12 * 16 + 14, none⟩ = some (.slice x.cert.fa x.cert.froms.length x.cert.fc) := hc 14 _ rfl
          have d15 : wr.cell? ⟨b, off + j12 * 16 + 15, none⟩ = some (.slice x.sa x.seats.length x.sc) := hc 15 _ rfl
          clear hc
          go_wp2_with fail
          refine (rsight_any x B _ g _ hWx12 (by unfold sightW at *; omega) hx hB).mono ?_
          rintro e w90 ⟨rfl, hW90, hC90⟩
          have hB90 := hC90.blk hBx12 (by omega) (by decide)
          go_wp2_with fail
          go_roundw
          case rel => exact ⟨j12 + 1, by go_num, by omega, by rw [HSl.out]; exact hW90, hB90, hTx12.trans hC90⟩
          case measure => simp [intOf]; omega
      have hji12 : ¬ (j12 : Int) < (ss.length : Int) := by omega
      rw [List.take_of_length_le (by omega)] at hWx12
      have ll12 := fold_len Out.sight sightW Out.sight_len ss S11
      obtain ⟨w12, rfl⟩ : ∃ x : World, x = wr := ⟨_, rfl⟩
      obtain ⟨hW12, hB12, hT12⟩ : Ref w12 g (ss.foldl Out.sight S11) ∧ Blk w12 w.heap.size 94 #[.int .i64 x1, .int .i64 x2, .int .i64 x3, .int .i64 x4, .int .i64 x5, .int .i64 x6, .int .i64 x7, .string (bs x8), .slice aA al.length ac, .slice sA ss.length sc, .slice pA ps.length pc] ∧ Turned w w12 g := ⟨hWx12, hBx12, hTx12⟩
      clear hWx12 hBx12 hTx12 hlt12
      generalize ss.foldl Out.sight S11 = S12 at *
      have hlt12 := hB12.lt
      have hgl12 := hW12.lt
      have c12_0 := hB12.c 0 rfl
      have c12_1 := hB12.c 1 rfl
      have c12_2 := hB12.c 2 rfl
      have c12_3 := hB12.c 3 rfl
      have c12_4 := hB12.c 4 rfl
      have c12_5 := hB12.c 5 rfl
      have c12_6 := hB12.c 6 rfl
      have c12_7 := hB12.c 7 rfl
      have c12_8 := hB12.c 8 rfl
      have c12_9 := hB12.c 9 rfl
      have c12_10 := hB12.c 10 rfl
      go_wp2_with fail
      refine (rcount_any _ _ _ g _ hW12 (by omega)).mono ?_
      rintro e w13 ⟨rfl, hW13, hC13⟩
      have hB13 := hC13.blk hB12 (by omega) (by decide)
      have hT13 := hT12.trans hC13
      have hlt13 := hB13.lt
      have hgl13 := hW13.lt
      have ll13 := (S12.lim ps.length 1).num_len ps.length
      rw [HLP.out] at ll13
      generalize (S12.lim ps.length 1).num ps.length = S13 at *
      have c13_0 := hB13.c 0 rfl
      have c13_1 := hB13.c 1 rfl
      have c13_2 := hB13.c 2 rfl
      have c13_3 := hB13.c 3 rfl
      have c13_4 := hB13.c 4 rfl
      have c13_5 := hB13.c 5 rfl
      have c13_6 := hB13.c 6 rfl
      have c13_7 := hB13.c 7 rfl
      have c13_8 := hB13.c 8 rfl
      have c13_9 := hB13.c 9 rfl
      have c13_10 := hB13.c 10 rfl
      go_wp2_with fail
      go_loopw [6] (fun i wr => ∃ j : Nat, i = .int .i64 (j : Int) ∧ j ≤ ps.length ∧ Ref wr g ((ps.take j).foldl Out.proof S13) ∧ Blk wr w.heap.size 94 #[.int .i64 x1, .int .i64 x2, .int .i64 x3, .int .i64 x4, .int .i64 x5, .int .i64 x6, .int .i64 x7, .string (bs x8), .slice aA al.length ac, .slice sA ss.length sc, .slice pA ps.length pc] ∧ Turned w wr g) (fun i _ => ps.length - (intOf i).toNat)
      case atStart => exact ⟨0, rfl, by omega, by simpa using hW13, hB13, hT13⟩
      case round =>
        obtain ⟨j14, rfl, hj14, hWx14, hBx14, hTx14⟩ := hrel
        have hgx14 := hWx14.lt
        have kx14 := hBx14.c 10 rfl
        by_cases hlt14 : j14 < ps.length
        · as_aux_lemma =>
            have hji14 : (j14 : Int) < (ps.length : Int) := by omega
            obtain ⟨b, off, rfl, hbB, hc⟩ := ProofsL.at_ (hTx14.rd hxp hB) hlt14
            have HSl := Lib.hid (fold_take Out.proof S13 ps j14 hlt14)
            have hle := fold_len Out.proof proofW Out.proof_lenW (ps.take j14) S13
            have hle2 := sumL_take proofW ps j14 hlt14
            have hx := (hxo ps[j14] (List.getElem_mem hlt14)).below (hTx14.low.mono hB)
            generalize hxx : ps[j14] = x at *
            clear hxx
            have d0 : wr.cell? ⟨b, off + j14 * 4, none⟩ = some (.slice x.ta x.turns.length x.tc) := hc 0 _ rfl
            have d1 : wr.cell? ⟨b, off + j14 * 4 + 1, none⟩ = some (.bool x.leaf) := hc 1 _ rfl
            have d2 : wr.cell? ⟨b, off + j14 * 4 + 2, none⟩ = some (.string (bs x.key)) := hc 2 _ rfl
            have d3 : wr.cell? ⟨b, off + j14 * 4 + 3, none⟩ = some (.string (bs x.value)) := hc 3 _ rfl
            clear hc
            go_wp2_with fail
            refine (rproof_any x B _ g _ hWx14 (by unfold proofW at *; omega) hx hB).mono ?_
            rintro e w90 ⟨rfl, hW90, hC90⟩
            have hB90 := hC90.blk hBx14 (by omega) (by decide)
            go_wp2_with fail
            go_roundw
            case rel => exact ⟨j14 + 1, by go_num, by omega, by rw [HSl.out]; exact hW90, hB90, hTx14.trans hC90⟩
            case measure => simp [intOf]; omega
        have hji14 : ¬ (j14 : Int) < (ps.length : Int) := by omega
        rw [List.take_of_length_le (by omega)] at hWx14
        have ll14 := fold_len Out.proof proofW Out.proof_lenW ps S13
        obtain ⟨w14, rfl⟩ : ∃ x : World, x = wr := ⟨_, rfl⟩
        obtain ⟨hW14, hB14, hT14⟩ : Ref w14 g (ps.foldl Out.proof S13) ∧ Blk w14 w.heap.size 94 #[.int .i64 x1, .int .i64 x2, .int .i64 x3, .int .i64 x4, .int .i64 x5, .int .i64 x6, .int .i64 x7, .string (bs x8), .slice aA al.length ac, .slice sA ss.length sc, .slice pA ps.length pc] ∧ Turned w w14 g := ⟨hWx14, hBx14, hTx14⟩
        clear hWx14 hBx14 hTx14 hlt14
        generalize ps.foldl Out.proof S13 = S14 at *
        have hlt14 := hB14.lt
        have hgl14 := hW14.lt
        have c14_0 := hB14.c 0 rfl
        have c14_1 := hB14.c 1 rfl
        have c14_2 := hB14.c 2 rfl
        have c14_3 := hB14.c 3 rfl
        have c14_4 := hB14.c 4 rfl
        have c14_5 := hB14.c 5 rfl
        have c14_6 := hB14.c 6 rfl
        have c14_7 := hB14.c 7 rfl
        have c14_8 := hB14.c 8 rfl
        have c14_9 := hB14.c 9 rfl
        have c14_10 := hB14.c 10 rfl
        go_upto_region 24 with fail
        go_cut [112] (fun x wc => x = .tuple #[] ∧ Ref wc g (S14.need (rtx1 ⟨x1, x2, x3, x4, x5, x6, x7, x8, al, aA, ac, ss, sA, sc, ps, pA, pc⟩)) ∧ Blk wc w.heap.size 94 #[.int .i64 x1, .int .i64 x2, .int .i64 x3, .int .i64 x4, .int .i64 x5, .int .i64 x6, .int .i64 x7, .string (bs x8), .slice aA al.length ac, .slice sA ss.length sc, .slice pA ps.length pc] ∧ Turned w wc g)
        case first =>
         as_aux_lemma =>
          have hK1 : Hid (rtx1 ⟨x1, x2, x3, x4, x5, x6, x7, x8, al, aA, ac, ss, sA, sc, ps, pA, pc⟩ = (!(decide (x1 < 1) || decide (10 < x1) || decide (x2 < 1)))) := rfl
          go_wp2_with fail
          all_goals
            refine (rneed_any _ _ g _ hW14).mono ?_
            rintro e w15 ⟨rfl, hW15, hC15⟩
            go_wp2_with fail
            go_meet
            exact ⟨rfl, hW15.eq (by congr 1; rw [hK1.out]; first | rfl | grind | grind [emp]), hC15.blk hB14 (by omega) (by decide), hT14.trans hC15⟩
        case rest =>
          as_aux_lemma =>
            obtain ⟨w15, rfl⟩ : ∃ x : World, x = wc := ⟨_, rfl⟩
            obtain ⟨rfl, hW15, hB15, hT15⟩ := hcut
            have hlt15 := hB15.lt
            have hgl15 := hW15.lt
            have ll15 : (S14.need (rtx1 ⟨x1, x2, x3, x4, x5, x6, x7, x8, al, aA, ac, ss, sA, sc, ps, pA, pc⟩)).b.length = S14.b.length := rfl
            generalize hS15 : S14.need (rtx1 ⟨x1, x2, x3, x4, x5, x6, x7, x8, al, aA, ac, ss, sA, sc, ps, pA, pc⟩) = S15 at *
            have HS15 := Lib.hid hS15
            clear hS15
            have c15_0 := hB15.c 0 rfl
            have c15_1 := hB15.c 1 rfl
            have c15_2 := hB15.c 2 rfl
            have c15_3 := hB15.c 3 rfl
            have c15_4 := hB15.c 4 rfl
            have c15_5 := hB15.c 5 rfl
            have c15_6 := hB15.c 6 rfl
            have c15_7 := hB15.c 7 rfl
            have c15_8 := hB15.c 8 rfl
            have c15_9 := hB15.c 9 rfl
            have c15_10 := hB15.c 10 rfl
            go_upto_region 25 with fail
            go_cut [7] (fun x wc => x = .bool (toF x1) ∧ Ref wc g S15 ∧ Blk wc w.heap.size 94 #[.int .i64 x1, .int .i64 x2, .int .i64 x3, .int .i64 x4, .int .i64 x5, .int .i64 x6, .int .i64 x7, .string (bs x8), .slice aA al.length ac, .slice sA ss.length sc, .slice pA ps.length pc] ∧ Turned w wc g)
            case first =>
             as_aux_lemma =>
              go_wp2_with fail
              refine (rin_any x1 [1, 3, 7, 8] 4 w15.heap.size _ (by have hN := Blk.new w15 3 #[.int .i64 1, .int .i64 3, .int .i64 7, .int .i64 8]; simpa using hN) (by simp)).mono ?_
              rintro e w' ⟨rfl, rfl⟩
              rw [in_to]
              go_wp2_with fail
              go_meet
              exact ⟨rfl, hW15.alloc _, hB15.alloc _, hT15.alloc (by omega) _⟩
            case rest =>
              as_aux_lemma =>
                obtain ⟨w16, rfl⟩ : ∃ x : World, x = wc := ⟨_, rfl⟩
                obtain ⟨rfl, hW16, hB16, hT16⟩ := hcut
                have hlt16 := hB16.lt
                have hgl16 := hW16.lt
                have c16_0 := hB16.c 0 rfl
                have c16_1 := hB16.c 1 rfl
                have c16_2 := hB16.c 2 rfl
                have c16_3 := hB16.c 3 rfl
                have c16_4 := hB16.c 4 rfl
                have c16_5 := hB16.c 5 rfl
                have c16_6 := hB16.c 6 rfl
                have c16_7 := hB16.c 7 rfl
                have c16_8 := hB16.c 8 rfl
                have c16_9 := hB16.c 9 rfl
                have c16_10 := hB16.c 10 rfl
                go_upto_region 26 with fail
                go_cut [7, 133] (fun z0 x wc => z0 = .bool (toF x1) ∧ x = .tuple #[] ∧ Ref wc g (S15.need (rtx2 ⟨x1, x2, x3, x4, x5, x6, x7, x8, al, aA, ac, ss, sA, sc, ps, pA, pc⟩)) ∧ Blk wc w.heap.size 94 #[.int .i64 x1, .int .i64 x2, .int .i64 x3, .int .i64 x4, .int .i64 x5, .int .i64 x6, .int .i64 x7, .string (bs x8), .slice aA al.length ac, .slice sA ss.length sc, .slice pA ps.length pc] ∧ Turned w wc g)
                case first =>
                 as_aux_lemma =>
                  have hK1 : Hid (rtx2 ⟨x1, x2, x3, x4, x5, x6, x7, x8, al, aA, ac, ss, sA, sc, ps, pA, pc⟩ = (!((toF x1 && decide (x6 < 1)) || (!toF x1 && !decide (x6 = 0))))) := rfl
                  generalize toF x1 = q1 at *
                  go_wp2_with fail
                  all_goals
                    refine (rneed_any _ _ g _ hW16).mono ?_
                    rintro e w17 ⟨rfl, hW17, hC17⟩
                    go_wp2_with fail
                    go_meet
                    exact ⟨(by first | rfl | simp [*]), rfl, hW17.eq (by congr 1; rw [hK1.out]; first | rfl | grind | grind [emp]), hC17.blk hB16 (by omega) (by decide), hT16.trans hC17⟩
                case rest =>
                  as_aux_lemma =>
                    obtain ⟨w17, rfl⟩ : ∃ x : World, x = wc := ⟨_, rfl⟩
                    obtain ⟨rfl, rfl, hW17, hB17, hT17⟩ := hcut
                    have hlt17 := hB17.lt
                    have hgl17 := hW17.lt
                    have ll17 : (S15.need (rtx2 ⟨x1, x2, x3, x4, x5, x6, x7, x8, al, aA, ac, ss, sA, sc, ps, pA, pc⟩)).b.length = S15.b.length := rfl
                    generalize hS17 : S15.need (rtx2 ⟨x1, x2, x3, x4, x5, x6, x7, x8, al, aA, ac, ss, sA, sc, ps, pA, pc⟩) = S17 at *
                    have HS17 := Lib.hid hS17
                    clear hS17
                    have c17_0 := hB17.c 0 rfl
                    have c17_1 := hB17.c 1 rfl
                    have c17_2 := hB17.c 2 rfl
                    have c17_3 := hB17.c 3 rfl
                    have c17_4 := hB17.c 4 rfl
                    have c17_5 := hB17.c 5 rfl
                    have c17_6 := hB17.c 6 rfl
                    have c17_7 := hB17.c 7 rfl
                    have c17_8 := hB17.c 8 rfl
                    have c17_9 := hB17.c 9 rfl
                    have c17_10 := hB17.c 10 rfl
                    go_upto_region 27 with fail
                    go_cut [7, 8] (fun _ x wc => x = .bool (amountF x1) ∧ Ref wc g S17 ∧ Blk wc w.heap.size 94 #[.int .i64 x1, .int .i64 x2, .int .i64 x3, .int .i64 x4, .int .i64 x5, .int .i64 x6, .int .i64 x7, .string (bs x8), .slice aA al.length ac, .slice sA ss.length sc, .slice pA ps.length pc] ∧ Turned w wc g)
                    case first =>
                     as_aux_lemma =>
                      have hAM := in_am x1
                      generalize amountF x1 = q2 at *
                      cases hq : toF x1
                      · rw [hq] at hAM
                        have HAM := Lib.hid hAM
                        clear hAM
                        go_wp2_with fail
                        refine (rin_any x1 [2, 4, 5] 3 w17.heap.size _ (by have hN := Blk.new w17 3 #[.int .i64 2, .int .i64 4, .int .i64 5]; simpa using hN) (by simp)).mono ?_
                        rintro e w' ⟨rfl, rfl⟩
                        rw [show inB x1 [2, 4, 5] = q2 from by simpa using HAM.out]
                        go_wp2_with fail
                        go_meet
                        exact ⟨by first | rfl | simp [*], hW17.alloc _, hB17.alloc _, hT17.alloc (by omega) _⟩
                      · rw [hq] at hAM
                        have HAM := Lib.hid hAM
                        clear hAM
                        go_wp2_with fail
                        go_meet
                        exact ⟨by rw [← HAM.out]; first | rfl | simp [*], hW17, hB17, hT17⟩
                    case rest =>
                      as_aux_lemma =>
                        obtain ⟨w18, rfl⟩ : ∃ x : World, x = wc := ⟨_, rfl⟩
                        obtain ⟨rfl, hW18, hB18, hT18⟩ := hcut
                        have hlt18 := hB18.lt
                        have hgl18 := hW18.lt
                        have c18_0 := hB18.c 0 rfl
                        have c18_1 := hB18.c 1 rfl
                        have c18_2 := hB18.c 2 rfl
                        have c18_3 := hB18.c 3 rfl
                        have c18_4 := hB18.c 4 rfl
                        have c18_5 := hB18.c 5 rfl
                        have c18_6 := hB18.c 6 rfl
                        have c18_7 := hB18.c 7 rfl
                        have c18_8 := hB18.c 8 rfl
                        have c18_9 := hB18.c 9 rfl
                        have c18_10 := hB18.c 10 rfl
                        go_upto_region 28 with fail
                        go_cut [7, 8, 149] (fun _ _ x wc => x = .tuple #[] ∧ Ref wc g (S17.need (rtx3 ⟨x1, x2, x3, x4, x5, x6, x7, x8, al, aA, ac, ss, sA, sc, ps, pA, pc⟩)) ∧ Blk wc w.heap.size 94 #[.int .i64 x1, .int .i64 x2, .int .i64 x3, .int .i64 x4, .int .i64 x5, .int .i64 x6, .int .i64 x7, .string (bs x8), .slice aA al.length ac, .slice sA ss.length sc, .slice pA ps.length pc] ∧ Turned w wc g)
                        case first =>
                         as_aux_lemma =>
                          have hK1 : Hid (rtx3 ⟨x1, x2, x3, x4, x5, x6, x7, x8, al, aA, ac, ss, sA, sc, ps, pA, pc⟩ = (!(!amountF x1 && !decide (x7 = 0)))) := rfl
                          generalize amountF x1 = q2 at *
                          go_wp2_with fail
                          all_goals
                            refine (rneed_any _ _ g _ hW18).mono ?_
                            rintro e w19 ⟨rfl, hW19, hC19⟩
                            go_wp2_with fail
                            go_meet
                            exact ⟨rfl, hW19.eq (by congr 1; rw [hK1.out]; first | rfl | grind | grind [emp]), hC19.blk hB18 (by omega) (by decide), hT18.trans hC19⟩
                        case rest =>
                          as_aux_lemma =>
                            obtain ⟨w19, rfl⟩ : ∃ x : World, x = wc := ⟨_, rfl⟩
                            obtain ⟨rfl, hW19, hB19, hT19⟩ := hcut
                            have hlt19 := hB19.lt
                            have hgl19 := hW19.lt
                            have ll19 : (S17.need (rtx3 ⟨x1, x2, x3, x4, x5, x6, x7, x8, al, aA, ac, ss, sA, sc, ps, pA, pc⟩)).b.length = S17.b.length := rfl
                            generalize hS19 : S17.need (rtx3 ⟨x1, x2, x3, x4, x5, x6, x7, x8, al, aA, ac, ss, sA, sc, ps, pA, pc⟩) = S19 at *
                            have HS19 := Lib.hid hS19
                            clear hS19
                            have c19_0 := hB19.c 0 rfl
                            have c19_1 := hB19.c 1 rfl
                            have c19_2 := hB19.c 2 rfl
                            have c19_3 := hB19.c 3 rfl
                            have c19_4 := hB19.c 4 rfl
                            have c19_5 := hB19.c 5 rfl
                            have c19_6 := hB19.c 6 rfl
                            have c19_7 := hB19.c 7 rfl
                            have c19_8 := hB19.c 8 rfl
                            have c19_9 := hB19.c 9 rfl
                            have c19_10 := hB19.c 10 rfl
                            go_upto_region 29 with fail
                            go_cut [7, 8, 164] (fun _ _ x wc => x = .tuple #[] ∧ Ref wc g (S19.need (rtx4 ⟨x1, x2, x3, x4, x5, x6, x7, x8, al, aA, ac, ss, sA, sc, ps, pA, pc⟩)) ∧ Blk wc w.heap.size 94 #[.int .i64 x1, .int .i64 x2, .int .i64 x3, .int .i64 x4, .int .i64 x5, .int .i64 x6, .int .i64 x7, .string (bs x8), .slice aA al.length ac, .slice sA ss.length sc, .slice pA ps.length pc] ∧ Turned w wc g)
                            case first =>
                             as_aux_lemma =>
                              have hK1 : Hid (rtx4 ⟨x1, x2, x3, x4, x5, x6, x7, x8, al, aA, ac, ss, sA, sc, ps, pA, pc⟩ = (!((!decide (x1 = 2) && !decide (x1 = 3)) && !emp x8))) := rfl
                              go_wp2_with fail
                              all_goals
                                refine (rneed_any _ _ g _ hW19).mono ?_
                                rintro e w20 ⟨rfl, hW20, hC20⟩
                                go_wp2_with fail
                                go_meet
                                exact ⟨rfl, hW20.eq (by congr 1; rw [hK1.out]; first | rfl | grind | grind [emp]), hC20.blk hB19 (by omega) (by decide), hT19.trans hC20⟩
                            case rest =>
                              as_aux_lemma =>
                                obtain ⟨w20, rfl⟩ : ∃ x : World, x = wc := ⟨_, rfl⟩
                                obtain ⟨rfl, hW20, hB20, hT20⟩ := hcut
                                have hlt20 := hB20.lt
                                have hgl20 := hW20.lt
                                have ll20 : (S19.need (rtx4 ⟨x1, x2, x3, x4, x5, x6, x7, x8, al, aA, ac, ss, sA, sc, ps, pA, pc⟩)).b.length = S19.b.length := rfl
                                generalize hS20 : S19.need (rtx4 ⟨x1, x2, x3, x4, x5, x6, x7, x8, al, aA, ac, ss, sA, sc, ps, pA, pc⟩) = S20 at *
                                have HS20 := Lib.hid hS20
                                clear hS20
                                have c20_0 := hB20.c 0 rfl
                                have c20_1 := hB20.c 1 rfl
                                have c20_2 := hB20.c 2 rfl
                                have c20_3 := hB20.c 3 rfl
                                have c20_4 := hB20.c 4 rfl
                                have c20_5 := hB20.c 5 rfl
                                have c20_6 := hB20.c 6 rfl
                                have c20_7 := hB20.c 7 rfl
                                have c20_8 := hB20.c 8 rfl
                                have c20_9 := hB20.c 9 rfl
                                have c20_10 := hB20.c 10 rfl
                                go_upto_region 30 with fail
                                go_cut [7, 8, 175] (fun _ _ x wc => x = .tuple #[] ∧ Ref wc g (S20.need (rtx5 ⟨x1, x2, x3, x4, x5, x6, x7, x8, al, aA, ac, ss, sA, sc, ps, pA, pc⟩)) ∧ Blk wc w.heap.size 94 #[.int .i64 x1, .int .i64 x2, .int .i64 x3, .int .i64 x4, .int .i64 x5, .int .i64 x6, .int .i64 x7, .string (bs x8), .slice aA al.length ac, .slice sA ss.length sc, .slice pA ps.length pc] ∧ Turned w wc g)
                                case first =>
                                 as_aux_lemma =>
                                  have hK1 : Hid (rtx5 ⟨x1, x2, x3, x4, x5, x6, x7, x8, al, aA, ac, ss, sA, sc, ps, pA, pc⟩ = (!(!decide (x1 = 3) && decide (0 < al.length)))) := rfl
                                  go_wp2_with fail
                                  all_goals
                                    refine (rneed_any _ _ g _ hW20).mono ?_
                                    rintro e w21 ⟨rfl, hW21, hC21⟩
                                    go_wp2_with fail
                                    go_meet
                                    exact ⟨rfl, hW21.eq (by congr 1; rw [hK1.out]; first | rfl | grind | grind [emp]), hC21.blk hB20 (by omega) (by decide), hT20.trans hC21⟩
                                case rest =>
                                  as_aux_lemma =>
                                    obtain ⟨w21, rfl⟩ : ∃ x : World, x = wc := ⟨_, rfl⟩
                                    obtain ⟨rfl, hW21, hB21, hT21⟩ := hcut
                                    have hlt21 := hB21.lt
                                    have hgl21 := hW21.lt
                                    have ll21 : (S20.need (rtx5 ⟨x1, x2, x3, x4, x5, x6, x7, x8, al, aA, ac, ss, sA, sc, ps, pA, pc⟩)).b.length = S20.b.length := rfl
                                    generalize hS21 : S20.need (rtx5 ⟨x1, x2, x3, x4, x5, x6, x7, x8, al, aA, ac, ss, sA, sc, ps, pA, pc⟩) = S21 at *
                                    have HS21 := Lib.hid hS21
                                    clear hS21
                                    have c21_0 := hB21.c 0 rfl
                                    have c21_1 := hB21.c 1 rfl
                                    have c21_2 := hB21.c 2 rfl
                                    have c21_3 := hB21.c 3 rfl
                                    have c21_4 := hB21.c 4 rfl
                                    have c21_5 := hB21.c 5 rfl
                                    have c21_6 := hB21.c 6 rfl
                                    have c21_7 := hB21.c 7 rfl
                                    have c21_8 := hB21.c 8 rfl
                                    have c21_9 := hB21.c 9 rfl
                                    have c21_10 := hB21.c 10 rfl
                                    go_upto_region 31 with fail
                                    go_cut [7, 8, 185] (fun _ _ x wc => x = .tuple #[] ∧ Ref wc g (S21.need (rtx6 ⟨x1, x2, x3, x4, x5, x6, x7, x8, al, aA, ac, ss, sA, sc, ps, pA, pc⟩)) ∧ Blk wc w.heap.size 94 #[.int .i64 x1, .int .i64 x2, .int .i64 x3, .int .i64 x4, .int .i64 x5, .int .i64 x6, .int .i64 x7, .string (bs x8), .slice aA al.length ac, .slice sA ss.length sc, .slice pA ps.length pc] ∧ Turned w wc g)
                                    case first =>
                                     as_aux_lemma =>
                                      have hK1 : Hid (rtx6 ⟨x1, x2, x3, x4, x5, x6, x7, x8, al, aA, ac, ss, sA, sc, ps, pA, pc⟩ = (decide (x1 = 9) == decide (ss.length = 1))) := rfl
                                      have he1 : Hid (decide (ss.length = 1) = ((ss.length : Int) == 1)) := by show _ = _; rw [Bool.eq_iff_iff]; simp; omega
                                      have he2 : Hid (decide (x1 = 9) = (x1 == 9)) := by show _ = _; rw [Bool.eq_iff_iff]; simp
                                      rw [he1.out, he2.out] at hK1
                                      go_wp2_with fail
                                      all_goals
                                        refine (rneed_any _ _ g _ hW21).mono ?_
                                        rintro e w22 ⟨rfl, hW22, hC22⟩
                                        go_wp2_with fail
                                        go_meet
                                        exact ⟨rfl, hW22.eq (by congr 1; rw [hK1.out]; first | rfl | grind | grind [emp]), hC22.blk hB21 (by omega) (by decide), hT21.trans hC22⟩
                                    case rest =>
                                      as_aux_lemma =>
                                        obtain ⟨w22, rfl⟩ : ∃ x : World, x = wc := ⟨_, rfl⟩
                                        obtain ⟨rfl, hW22, hB22, hT22⟩ := hcut
                                        have hlt22 := hB22.lt
                                        have hgl22 := hW22.lt
                                        have ll22 : (S21.need (rtx6 ⟨x1, x2, x3, x4, x5, x6, x7, x8, al, aA, ac, ss, sA, sc, ps, pA, pc⟩)).b.length = S21.b.length := rfl
                                        generalize hS22 : S21.need (rtx6 ⟨x1, x2, x3, x4, x5, x6, x7, x8, al, aA, ac, ss, sA, sc, ps, pA, pc⟩) = S22 at *
                                        have HS22 := Lib.hid hS22
                                        clear hS22
                                        have c22_0 := hB22.c 0 rfl
                                        have c22_1 := hB22.c 1 rfl
                                        have c22_2 := hB22.c 2 rfl
                                        have c22_3 := hB22.c 3 rfl
                                        have c22_4 := hB22.c 4 rfl
                                        have c22_5 := hB22.c 5 rfl
                                        have c22_6 := hB22.c 6 rfl
                                        have c22_7 := hB22.c 7 rfl
                                        have c22_8 := hB22.c 8 rfl
                                        have c22_9 := hB22.c 9 rfl
                                        have c22_10 := hB22.c 10 rfl
                                        go_wp2_with fail
                                        all_goals
                                          refine (rneed_any _ _ g _ hW22).mono ?_
                                          rintro e w23 ⟨rfl, hW23, hC23⟩
                                          have hB23 := hC23.blk hB22 (by omega) (by decide)
                                          have hT23 := hT22.trans hC23
                                          have hlt23 := hB23.lt
                                          have hgl23 := hW23.lt
                                          have c23_0 := hB23.c 0 rfl
                                          have c23_1 := hB23.c 1 rfl
                                          have c23_2 := hB23.c 2 rfl
                                          have c23_3 := hB23.c 3 rfl
                                          have c23_4 := hB23.c 4 rfl
                                          have c23_5 := hB23.c 5 rfl
                                          have c23_6 := hB23.c 6 rfl
                                          have c23_7 := hB23.c 7 rfl
                                          have c23_8 := hB23.c 8 rfl
                                          have c23_9 := hB23.c 9 rfl
                                          have c23_10 := hB23.c 10 rfl
                                          go_wp2_with fail
                                          go_end0
                                          exact ⟨rfl, HEQ.out _ (hW23.eq (by rw [show rtx7 ⟨x1, x2, x3, x4, x5, x6, x7, x8, al, aA, ac, ss, sA, sc, ps, pA, pc⟩ = (decide (x1 = 10) == decide (ps.length = 1)) from rfl, show decide (ps.length = 1) = ((ps.length : Int) == 1) from (by rw [Bool.eq_iff_iff]; simp; omega), show decide (x1 = 10) = (x1 == 10) from (by rw [Bool.eq_iff_iff]; simp)]; congr 1; grind)), hT23⟩
end Go.Proofs.YtjhaafbbdgjagaaGreat
