/- Of the texts Wr18, Wr13, Wr14, Wr19a. -/
import Derived.Test.YtjjkdmngmopjbaaProg
import Derived.Test.YtjjkdmngmopjbaaG27
import Derived.Test.YtjjkdmngmopjbaaG26
import Derived.Deep.DeepCutAuto
namespace Go.Proofs.Ytjjkdmngmopjbaa
open Go.RowKit
theorem Ref.below {w w' : World} {g : Nat} {S : Out} (h : Ref w g S) (hb : Below w.heap.size w w') : Ref w' g S := by
  have hg := h.lt
  obtain ⟨l, o, hB, r⟩ := h
  exact ⟨l, o, hB.below hb hg, r⟩
theorem Turned.ofBelow {a w w' : World} {g : Nat} (h : Turned a w g) (hb : Below w.heap.size w w') (hg : g ≤ w.heap.size) : Turned a w' g := h.trans ⟨hb.mono hg, fun k hk _ _ => hb.block k hk⟩
def inB (k : Int) (l : List Int) : Bool := l.any fun y => y == k
theorem inB_stop (k : Int) (l : List Int) (i : Nat) (h : i < l.length) (e : l[i] = k) : inB k l = true := by
  unfold inB
  rw [List.any_eq_true]
  exact ⟨l[i], List.getElem_mem h, by simp [e]⟩
theorem inB_none (k : Int) (l : List Int) (h : ∀ i (hi : i < l.length), l[i] ≠ k) : inB k l = false := by
  unfold inB
  rw [List.any_eq_false]
  intro x hx
  obtain ⟨i, hi, rfl⟩ := List.getElem_of_mem hx
  simpa using h i hi
set_option maxRecDepth 100000 in
theorem rin_any (k : Int) (l : List Int) (c q : Nat) (w : World) (hq : Blk w q 3 (l.map (Value.int .i64)).toArray) (hl : l.length ≤ 100) :
    Calls Try.prog 176 #[.int .i64 k, .slice (some ⟨q, 0, none⟩) l.length c] w fun e w' => e = .returned (.bool (inB k l)) ∧ w = w' := by
  go_enter Try.func176, Try.ntmps176
  go_wp2
  go_loop [5] (fun i => ∃ j : Nat, i = .int .i64 (j : Int) ∧ j ≤ l.length ∧ ∀ i (hi : i < l.length), i < j → l[i] ≠ k) (fun i => l.length - (intOf i).toNat)
  case atStart => exact ⟨0, rfl, by omega, fun i _ h => absurd h (by omega)⟩
  case round =>
    obtain ⟨j, rfl, hj, hno⟩ := hrel
    have HN := Lib.hid hno
    clear hno
    by_cases hlt : j < l.length
    · have hji : (j : Int) < (l.length : Int) := by omega
      have c0 : w.cell? ⟨q, j, none⟩ = some (.int .i64 l[j]) := (hq.cell j).trans (by simp [List.getElem?_eq_getElem hlt])
      by_cases he : l[j] = k
      · have hb : (l[j] == k) = true := by simp [he]
        have HR := Lib.hid (inB_stop k l j hlt he)
        clear he
        go_wp2_with fail
        go_ret
        exact ⟨by rw [HR.out]; rfl, rfl⟩
      · have hb : (l[j] == k) = false := by simp [he]
        have HE := Lib.hid he
        clear he
        go_wp2_with fail
        go_round
        case rel => exact ⟨j + 1, by go_num, by omega, fun i hi h => by
          by_cases hij : i = j
          · subst hij; exact HE.out
          · exact HN.out i hi (by omega)⟩
        case measure => simp [intOf]; omega
    · have hji : ¬ (j : Int) < (l.length : Int) := by omega
      have HR := Lib.hid (inB_none k l fun i hi => HN.out i hi (by omega))
      go_wp2_with fail
      go_ret
      exact ⟨by rw [HR.out]; rfl, rfl⟩
theorem in_to (k : Int) : inB k [1, 3, 7, 8] = toF k := by
  simp only [inB, toF, List.any_cons, List.any_nil, Bool.or_false]
  rw [Bool.eq_iff_iff]
  simp
  omega
theorem in_am (k : Int) : (toF k || inB k [2, 4, 5]) = amountF k := by
  simp only [inB, amountF, List.any_cons, List.any_nil, Bool.or_false]
  rw [Bool.eq_iff_iff]
  simp
  grind
/-! ### far stays far -/
theorem far_num (S : Out) (n : Int) (h : (S.num n).far = false) : S.far = false := by
  have : (S.far || farN n) = false := h
  simp only [Bool.or_eq_false_iff] at this
  exact this.1
theorem far_lim (S : Out) (n m : Int) (h : (S.lim n m).far = false) : S.far = false := by
  have : (S.far || decide (m < n)) = false := h
  simp only [Bool.or_eq_false_iff] at this
  exact this.1
theorem far_fold {α : Type} (f : Out → α → Out) (hf : ∀ S x, (f S x).far = false → S.far = false) (l : List α) (S : Out) (h : (l.foldl f S).far = false) : S.far = false := by
  induction l generalizing S with
  | nil => exact h
  | cons x l ih => exact hf _ _ (ih _ h)
theorem far_list {α : Type} (f : Out → α → Out) (hf : ∀ S x, (f S x).far = false → S.far = false) (l : List α) (m : Int) (S : Out) (h : (S.list l m f).far = false) : S.far = false :=
  far_lim _ _ _ (far_num _ _ (far_fold f hf l _ h))
theorem far_text (S : Out) (s : List UInt8) (m : Int) (h : (S.text s m).far = false) : S.far = false := far_lim _ _ _ (far_num _ _ h)
theorem far_seat (S : Out) (x : Seat) (h : (S.seat x).far = false) : S.far = false := far_num _ _ (far_num _ _ h)
theorem far_turn (S : Out) (x : TurnD) (h : (S.turn x).far = false) : S.far = false := far_num _ _ (far_lim _ _ _ h)
theorem far_header (S : Out) (x : HeaderD) (h : (S.header x).far = false) : S.far = false := far_num _ _ (far_num _ _ (far_num _ _ h))
theorem far_cert (S : Out) (x : CertD) (h : (S.cert x).far = false) : S.far = false := by
  have h1 : ((((S.nums [x.h, x.r, x.s]).flag x.has).dig x.b).list x.froms 7 Out.num).far = false := h
  have h3 : (((S.nums [x.h, x.r, x.s]).flag x.has).dig x.b).far = false := far_list Out.num far_num _ _ _ h1
  have h2 : (((S.num x.h).num x.r).num x.s).far = false := h3
  exact far_num _ _ (far_num _ _ (far_num _ _ h2))
theorem far_bench (S : Out) (l : List Seat) (h : (S.bench l).far = false) : S.far = false := far_list Out.seat far_seat _ _ _ h
theorem far_sight (S : Out) (x : SightD) (h : (S.sight x).far = false) : S.far = false := far_header _ _ (far_cert _ _ (far_bench _ _ h))
theorem far_proof (S : Out) (x : ProofD) (h : (S.proof x).far = false) : S.far = false := by
  have h1 : ((((S.list x.turns 288 Out.turn).flag x.leaf).text x.key 32).text x.value 4096).far = false := h
  have h2 : ((S.list x.turns 288 Out.turn).flag x.leaf).far = false := far_text _ _ _ (far_text _ _ _ h1)
  have h3 : (S.list x.turns 288 Out.turn).far = false := h2
  exact far_list Out.turn far_turn _ _ _ h3
def txBase (S : Out) (x : TxD) : Out := ((((S.nums [x.k, x.f, x.n, x.p, x.l, x.t, x.a]).text x.text 2048).list x.args 8 Out.num).list x.sights 1 Out.sight).list x.proofs 1 Out.proof
theorem txBase_far (S : Out) (x : TxD) (h : (txBase S x).far = false) : 0 ≤ x.t := by
  have h1 := far_text _ _ _ (far_list Out.num far_num _ _ _ (far_list Out.sight far_sight _ _ _ (far_list Out.proof far_proof _ _ _ h)))
  have h2 : ((((((S.num x.k).num x.f).num x.n).num x.p).num x.l).num x.t).far = false := far_num _ _ h1
  have h3 : (((((S.num x.k).num x.f).num x.n).num x.p).num x.l).far = false ∧ farN x.t = false := by
    have : ((((((S.num x.k).num x.f).num x.n).num x.p).num x.l).far || farN x.t) = false := h2
    simpa using this
  have h4 := h3.2
  simp [farN] at h4
  exact h4.1
def rtx1 (x : TxD) : Bool := !(decide (x.k < 1) || decide (10 < x.k) || decide (x.f < 1))
def rtx2 (x : TxD) : Bool := !((toF x.k && decide (x.t < 1)) || (!toF x.k && !decide (x.t = 0)))
def rtx3 (x : TxD) : Bool := !(!amountF x.k && !decide (x.a = 0))
def rtx4 (x : TxD) : Bool := !((!decide (x.k = 2) && !decide (x.k = 3)) && !emp x.text)
def rtx5 (x : TxD) : Bool := !(!decide (x.k = 3) && decide (0 < x.args.length))
def rtx6 (x : TxD) : Bool := (decide (x.k = 9) == decide (x.sights.length = 1))
def rtx7 (x : TxD) : Bool := (decide (x.k = 10) == decide (x.proofs.length = 1))
theorem rtx_ok (x : TxD) (h : 0 ≤ x.t) : (rtx1 x && rtx2 x && rtx3 x && rtx4 x && rtx5 x && rtx6 x && rtx7 x) = (txOk1 x && txOk2 x && txOk3 x) := by
  have h1 : rtx1 x = (decide (1 ≤ x.k) && decide (x.k ≤ 10) && decide (1 ≤ x.f)) := by
    unfold rtx1; rw [Bool.eq_iff_iff]; simp <;> omega
  have h2 : rtx2 x = (toF x.k == decide (1 ≤ x.t)) := by
    unfold rtx2
    cases toF x.k
    · rw [Bool.eq_iff_iff]; simp <;> omega
    · rw [Bool.eq_iff_iff]; simp <;> omega
  have h3 : rtx3 x = (amountF x.k || decide (x.a = 0)) := by unfold rtx3; cases amountF x.k <;> simp
  have h4 : rtx4 x = (textF x.k || emp x.text) := by unfold rtx4 textF; cases emp x.text <;> simp
  have h5 : rtx5 x = (argsF x.k || decide (x.args.length = 0)) := by
    unfold rtx5 argsF
    by_cases hk : x.k = 3
    · simp [hk]
    · simp [hk]; rw [Bool.eq_iff_iff]; simp [List.length_pos_iff]
  have h6 : rtx6 x = (sightF x.k == decide (x.sights.length = 1)) := rfl
  have h7 : rtx7 x = (proofF x.k == decide (x.proofs.length = 1)) := rfl
  rw [h1, h2, h3, h4, h5, h6, h7]
  unfold txOk1 txOk2 txOk3
  simp only [Bool.and_assoc]
theorem Out.tx_eq {w : World} {g : Nat} {S : Out} (x : TxD) (h : Ref w g ((((((((txBase S x).need (rtx1 x)).need (rtx2 x)).need (rtx3 x)).need (rtx4 x)).need (rtx5 x)).need (rtx6 x)).need (rtx7 x))) : Ref w g (S.tx x) := by
  rw [Out.need_need, Out.need_need, Out.need_need, Out.need_need, Out.need_need, Out.need_need] at h
  refine h.ifNear rfl (Nat.le_refl _) fun hf => ⟨rfl, ?_⟩
  have h0 := txBase_far S x hf
  have h1 := rtx_ok x h0
  have e : S.tx x = (txBase S x).need (txOk1 x && txOk2 x && txOk3 x) := by
    rw [← Out.need_need, ← Out.need_need]; rfl
  rw [e, ← h1]
  simp only [Bool.and_assoc]
end Go.Proofs.Ytjjkdmngmopjbaa

namespace Go.Proofs.Ytjjkdmngmopjbaa
open Go.RowKit
set_option maxRecDepth 100000 in
set_option maxHeartbeats 1000000 in
theorem putsInt_any (l : List Int) (A : Option Addr) (c B : Nat) (m : Int) (w : World) (g : Nat) (S : Out) (h : Wrt w g S) (hr : Ints w B A l) (hB : B ≤ g) (hl : S.b.length + 6 + sumL numW l ≤ 60000000000000) (hm : l.length ≤ maxLen) :
    Calls Try.prog 170 #[.pointer (some ⟨g, 0, none⟩), .slice A l.length c, .int .i64 m, .func (.func 89) #[] #[]] w fun e w' => e = .returned (.tuple #[]) ∧ Wrt w' g (S.list l m Out.num) ∧ Turned w w' g := by
  unfold maxLen at hm
  have hgt := h.lt
  have hn := ((S.lim l.length m).num_len l.length)
  have hb0 : (S.lim l.length m).b.length = S.b.length := rfl
  have hE : Hid (S.list l m Out.num = l.foldl Out.num ((S.lim l.length m).num l.length)) := rfl
  go_enter Try.func170, Try.ntmps170
  go_wp2_with fail
  refine (limited_any _ _ _ g _ h).mono ?_
  rintro e w1 ⟨rfl, hW1, hT1⟩
  go_wp2_with fail
  refine (number_any _ _ g _ hW1 (by omega)).mono ?_
  rintro e w2 ⟨rfl, hW2, hT2⟩
  have hT02 := hT1.trans hT2
  clear hT1 hT2 hW1
  generalize (S.lim l.length m).num l.length = S2 at *
  go_wp2_with fail
  go_loopw [9, 21] (fun _ i wr => ∃ j : Nat, i = .int .i64 (j : Int) ∧ j ≤ l.length ∧ Wrt wr g ((l.take j).foldl Out.num S2) ∧ Turned w wr g) (fun _ i _ => l.length - (intOf i).toNat)
  case atStart => exact ⟨0, rfl, by omega, by simpa using hW2, hT02⟩
  case round =>
    obtain ⟨j, rfl, hj, hW, hT⟩ := hrel
    have hgw := hW.lt
    by_cases hlt : j < l.length
    · have hji : (j : Int) < (l.length : Int) := by omega
      obtain ⟨b, off, rfl, hbB, hc⟩ := Ints.at_ (hT.rd hr hB) hlt
      have HS := Lib.hid (fold_take Out.num S2 l j hlt)
      have hle := fold_len Out.num numW Out.num_lenW (l.take j) S2
      have hle2 := sumL_take numW l j hlt
      generalize hxx : l[j] = x at *
      clear hxx
      have c0 : wr.cell? ⟨b, off + j, none⟩ = some (.int .i64 x) := hc
      clear hc
      go_wp2_with fail
      refine (number_any x _ g _ hW (by unfold numW at *; omega)).mono ?_
      rintro e w3 ⟨rfl, hW3, hT3⟩
      go_wp2_with fail
      go_roundw
      case rel => exact ⟨j + 1, by go_num, by omega, by rw [HS.out]; exact hW3, hT.trans hT3⟩
      case measure => simp [intOf]; omega
    · have hji : ¬ (j : Int) < (l.length : Int) := by omega
      go_wp2
      go_end0
      rw [List.take_of_length_le (by omega)] at hW
      exact ⟨rfl, by rw [hE.out]; exact hW, hT⟩
set_option maxRecDepth 100000 in
set_option maxHeartbeats 1000000 in
theorem putsTurn_any (l : List TurnD) (A : Option Addr) (c B : Nat) (m : Int) (w : World) (g : Nat) (S : Out) (h : Wrt w g S) (hr : TurnsL w B A l) (hB : B ≤ g) (hd : ∀ x ∈ l, x.ok) (hl : S.b.length + 6 + sumL turnW l ≤ 60000000000000) (hm : l.length ≤ maxLen) :
    Calls Try.prog 177 #[.pointer (some ⟨g, 0, none⟩), .slice A l.length c, .int .i64 m, .func (.func 178) #[] #[]] w fun e w' => e = .returned (.tuple #[]) ∧ Wrt w' g (S.list l m Out.turn) ∧ Turned w w' g := by
  unfold maxLen at hm
  have hgt := h.lt
  have hn := ((S.lim l.length m).num_len l.length)
  have hb0 : (S.lim l.length m).b.length = S.b.length := rfl
  have hE : Hid (S.list l m Out.turn = l.foldl Out.turn ((S.lim l.length m).num l.length)) := rfl
  go_enter Try.func177, Try.ntmps177
  go_wp2_with fail
  refine (limited_any _ _ _ g _ h).mono ?_
  rintro e w1 ⟨rfl, hW1, hT1⟩
  go_wp2_with fail
  refine (number_any _ _ g _ hW1 (by omega)).mono ?_
  rintro e w2 ⟨rfl, hW2, hT2⟩
  have hT02 := hT1.trans hT2
  clear hT1 hT2 hW1
  generalize (S.lim l.length m).num l.length = S2 at *
  go_wp2_with fail
  go_loopw [9, 21] (fun _ i wr => ∃ j : Nat, i = .int .i64 (j : Int) ∧ j ≤ l.length ∧ Wrt wr g ((l.take j).foldl Out.turn S2) ∧ Turned w wr g) (fun _ i _ => l.length - (intOf i).toNat)
  case atStart => exact ⟨0, rfl, by omega, by simpa using hW2, hT02⟩
  case round =>
    obtain ⟨j, rfl, hj, hW, hT⟩ := hrel
    have hgw := hW.lt
    by_cases hlt : j < l.length
    · have hji : (j : Int) < (l.length : Int) := by omega
      obtain ⟨b, off, rfl, hbB, hc⟩ := TurnsL.at_ (hT.rd hr hB) hlt
      have HS := Lib.hid (fold_take Out.turn S2 l j hlt)
      have hle := fold_len Out.turn turnW Out.turn_lenW (l.take j) S2
      have hle2 := sumL_take turnW l j hlt
      have hx := (hd l[j] (List.getElem_mem hlt))
      generalize hxx : l[j] = x at *
      clear hxx
      have c0 : wr.cell? ⟨b, off + j * 2, none⟩ = some (.int .i64 x.p) := hc 0 _ rfl
      have c1 : wr.cell? ⟨b, off + j * 2 + 1, none⟩ = some (.int .u64 x.d) := hc 1 _ rfl
      clear hc
      go_wp2_with fail
      refine (wturn_any x hx _ g _ (hW.alloc _) (by unfold turnW at *; omega)).mono ?_
      rintro e w3 ⟨rfl, hW3, hT3⟩
      go_wp2_with fail
      go_roundw
      case rel => exact ⟨j + 1, by go_num, by omega, by rw [HS.out]; exact hW3, (hT.alloc (Nat.le_of_lt hgw) _).trans hT3⟩
      case measure => simp [intOf]; omega
    · have hji : ¬ (j : Int) < (l.length : Int) := by omega
      go_wp2
      go_end0
      rw [List.take_of_length_le (by omega)] at hW
      exact ⟨rfl, by rw [hE.out]; exact hW, hT⟩
set_option maxRecDepth 100000 in
set_option maxHeartbeats 1000000 in
theorem wcert_any (x : CertD) (B : Nat) (w : World) (g : Nat) (S : Out) (h : Wrt w g S) (hl : S.b.length + 40 * certM x ≤ 59000000000000) (hx : x.held w B) (hB : B ≤ g) :
    Calls Try.prog 142 #[.pointer (some ⟨g, 0, none⟩), x.val] w fun e w' => e = .returned (.tuple #[]) ∧ Wrt w' g (S.cert x) ∧ Turned w w' g := by
  have hgt := h.lt
  have hE : Hid (S.cert x = ((((((S.nums [x.h, x.r, x.s]).flag x.has).dig x.b).list x.froms 7 Out.num).need (decide (x.s = 1) || decide (x.s = 2))).need (x.has || decide (x.b = 0))).need (allTo (fromOk x.froms) x.froms.length)) := by show _ = _; rw [Out.need_need (_ : Out) (decide (x.s = 1) || decide (x.s = 2))]; rfl
  simp only [certM] at hl
  obtain ⟨x1, x2, x3, x4, x5, x6, x6a, x6c⟩ := x
  dsimp only at hl hx
  dsimp only [CertD.val]
  obtain ⟨⟨hx0, hx1⟩, hxr, hxs⟩ := hx
  dsimp only at hx0 hx1 hxr hxs
  go_enter Try.func142, Try.ntmps142
  go_wp2_with fail
  generalize Value.agg #[.int .i64 x1, .int .i64 x2, .int .i64 x3, .bool x4, .int .u64 x5, .slice x6a x6.length x6c] = V
  have ll1 := S.nums_len [x1, x2, x3]
  simp only [List.length_cons, List.length_nil] at ll1
  refine (numbers_any [x1, x2, x3] 3 _ g (w.heap.size + 1) S ((h.alloc _).alloc _) (by have hN := Blk.new (w.alloc (.cells #[.int .i64 x1, .int .i64 x2, .int .i64 x3, .bool x4, .int .u64 x5, .slice x6a x6.length x6c] 37)) 3 #[.int .i64 x1, .int .i64 x2, .int .i64 x3]; simpa using hN) (by omega) (by simp; omega)).mono ?_
  rintro e w1 ⟨rfl, hW1, hC1⟩
  have hB1 := hC1.blk ((Blk.new _ _ _).alloc _) (by omega) (by decide)
  have hT1 := (((Turned.refl w g).alloc (by omega) _).alloc (by simp; omega) _).trans hC1
  have hlt1 := hB1.lt
  have hgl1 := hW1.lt
  generalize S.nums [x1, x2, x3] = S1 at *
  have c1_0 := (hB1.cell 0).trans (show _ = some (.int .i64 x1) from rfl)
  have c1_1 := (hB1.cell 1).trans (show _ = some (.int .i64 x2) from rfl)
  have c1_2 := (hB1.cell 2).trans (show _ = some (.int .i64 x3) from rfl)
  have c1_3 := (hB1.cell 3).trans (show _ = some (.bool x4) from rfl)
  have c1_4 := (hB1.cell 4).trans (show _ = some (.int .u64 x5) from rfl)
  have c1_5 := (hB1.cell 5).trans (show _ = some (.slice x6a x6.length x6c) from rfl)
  go_wp2_with fail
  refine (flag_any _ _ g _ hW1 (by omega)).mono ?_
  rintro e w2 ⟨rfl, hW2, hC2⟩
  have hB2 := hC2.blk hB1 (by omega) (by decide)
  have hT2 := hT1.trans hC2
  have hlt2 := hB2.lt
  have hgl2 := hW2.lt
  have ll2 := (by simp [Out.flag] : (S1.flag x4).b.length ≤ S1.b.length + 1)
  generalize S1.flag x4 = S2 at *
  have c2_0 := (hB2.cell 0).trans (show _ = some (.int .i64 x1) from rfl)
  have c2_1 := (hB2.cell 1).trans (show _ = some (.int .i64 x2) from rfl)
  have c2_2 := (hB2.cell 2).trans (show _ = some (.int .i64 x3) from rfl)
  have c2_3 := (hB2.cell 3).trans (show _ = some (.bool x4) from rfl)
  have c2_4 := (hB2.cell 4).trans (show _ = some (.int .u64 x5) from rfl)
  have c2_5 := (hB2.cell 5).trans (show _ = some (.slice x6a x6.length x6c) from rfl)
  go_wp2_with fail
  refine (digest_any _ _ g _ hW2 (by omega) (by omega) (by omega)).mono ?_
  rintro e w3 ⟨rfl, hW3, hC3⟩
  have hB3 := hC3.blk hB2 (by omega) (by decide)
  have hT3 := hT2.trans hC3
  have hlt3 := hB3.lt
  have hgl3 := hW3.lt
  have ll3 := (by simp [Out.dig, be_len] : (S2.dig x5).b.length ≤ S2.b.length + 8)
  generalize S2.dig x5 = S3 at *
  have c3_0 := (hB3.cell 0).trans (show _ = some (.int .i64 x1) from rfl)
  have c3_1 := (hB3.cell 1).trans (show _ = some (.int .i64 x2) from rfl)
  have c3_2 := (hB3.cell 2).trans (show _ = some (.int .i64 x3) from rfl)
  have c3_3 := (hB3.cell 3).trans (show _ = some (.bool x4) from rfl)
  have c3_4 := (hB3.cell 4).trans (show _ = some (.int .u64 x5) from rfl)
  have c3_5 := (hB3.cell 5).trans (show _ = some (.slice x6a x6.length x6c) from rfl)
  have hsw : sumL numW x6 = 6 * x6.length := sumL_const 6 x6
  go_wp2_with fail
  refine (putsInt_any x6 x6a x6c B 7 _ g _ hW3 (hT3.rd hxr hB) hB (by omega) hxs).mono ?_
  rintro e w4 ⟨rfl, hW4, hC4⟩
  have hB4 := hC4.blk hB3 (by omega) (by decide)
  have hT4 := hT3.trans hC4
  have hlt4 := hB4.lt
  have hgl4 := hW4.lt
  have ll4 := list_len Out.num numW Out.num_lenW x6 7 S3
  generalize S3.list x6 7 Out.num = S4 at *
  have c4_0 := (hB4.cell 0).trans (show _ = some (.int .i64 x1) from rfl)
  have c4_1 := (hB4.cell 1).trans (show _ = some (.int .i64 x2) from rfl)
  have c4_2 := (hB4.cell 2).trans (show _ = some (.int .i64 x3) from rfl)
  have c4_3 := (hB4.cell 3).trans (show _ = some (.bool x4) from rfl)
  have c4_4 := (hB4.cell 4).trans (show _ = some (.int .u64 x5) from rfl)
  have c4_5 := (hB4.cell 5).trans (show _ = some (.slice x6a x6.length x6c) from rfl)
  go_upto_region 5 with fail
  go_cut [37] (fun x wc => x = .tuple #[] ∧ Wrt wc g (S4.need (decide (x3 = 1) || decide (x3 = 2))) ∧ Blk wc w.heap.size 37 #[.int .i64 x1, .int .i64 x2, .int .i64 x3, .bool x4, .int .u64 x5, .slice x6a x6.length x6c] ∧ Turned w wc g)
  case first =>
    go_wp2_with fail
    all_goals
      refine (need_any _ _ g _ hW4).mono ?_
      rintro e w5 ⟨rfl, hW5, hC5⟩
      go_wp2_with fail
      go_meet
      exact ⟨rfl, hW5.eq (by congr 1; first | rfl | grind), hC5.blk hB4 (by omega) (by decide), hT4.trans hC5⟩
  case rest =>
    obtain ⟨w5, rfl⟩ : ∃ x : World, x = wc := ⟨_, rfl⟩
    obtain ⟨rfl, hW5, hB5, hT5⟩ := hcut
    have hlt5 := hB5.lt
    have hgl5 := hW5.lt
    have ll5 : (S4.need (decide (x3 = 1) || decide (x3 = 2))).b.length = S4.b.length := rfl
    generalize S4.need (decide (x3 = 1) || decide (x3 = 2)) = S5 at *
    have c5_0 := (hB5.cell 0).trans (show _ = some (.int .i64 x1) from rfl)
    have c5_1 := (hB5.cell 1).trans (show _ = some (.int .i64 x2) from rfl)
    have c5_2 := (hB5.cell 2).trans (show _ = some (.int .i64 x3) from rfl)
    have c5_3 := (hB5.cell 3).trans (show _ = some (.bool x4) from rfl)
    have c5_4 := (hB5.cell 4).trans (show _ = some (.int .u64 x5) from rfl)
    have c5_5 := (hB5.cell 5).trans (show _ = some (.slice x6a x6.length x6c) from rfl)
    go_upto_region 6 with fail
    go_cut [46] (fun x wc => x = .tuple #[] ∧ Wrt wc g (S5.need (x4 || decide (x5 = 0))) ∧ Blk wc w.heap.size 37 #[.int .i64 x1, .int .i64 x2, .int .i64 x3, .bool x4, .int .u64 x5, .slice x6a x6.length x6c] ∧ Turned w wc g)
    case first =>
      go_wp2_with fail
      all_goals
        refine (need_any _ _ g _ hW5).mono ?_
        rintro e w6 ⟨rfl, hW6, hC6⟩
        go_wp2_with fail
        go_meet
        exact ⟨rfl, hW6.eq (by congr 1; first | rfl | grind), hC6.blk hB5 (by omega) (by decide), hT5.trans hC6⟩
    case rest =>
      obtain ⟨w6, rfl⟩ : ∃ x : World, x = wc := ⟨_, rfl⟩
      obtain ⟨rfl, hW6, hB6, hT6⟩ := hcut
      have hlt6 := hB6.lt
      have hgl6 := hW6.lt
      have ll6 : (S5.need (x4 || decide (x5 = 0))).b.length = S5.b.length := rfl
      generalize S5.need (x4 || decide (x5 = 0)) = S6 at *
      have c6_0 := (hB6.cell 0).trans (show _ = some (.int .i64 x1) from rfl)
      have c6_1 := (hB6.cell 1).trans (show _ = some (.int .i64 x2) from rfl)
      have c6_2 := (hB6.cell 2).trans (show _ = some (.int .i64 x3) from rfl)
      have c6_3 := (hB6.cell 3).trans (show _ = some (.bool x4) from rfl)
      have c6_4 := (hB6.cell 4).trans (show _ = some (.int .u64 x5) from rfl)
      have c6_5 := (hB6.cell 5).trans (show _ = some (.slice x6a x6.length x6c) from rfl)
      have hKf : Hid (∀ j (h : j < x6.length), fromOk x6 j = decide (prevI x6 j < x6[j])) := by
        intro j h
        simp [fromOk, List.getElem?_eq_getElem h]
      have hKp : Hid (∀ j (h : j < x6.length), prevI x6 (j + 1) = x6[j]) := by
        intro j h
        simp [prevI, List.getElem?_eq_getElem h]
      go_wp2_with fail
      go_loopw [4, 6, 50] (fun p _ i wr => ∃ j : Nat, i = .int .i64 (j : Int) ∧ j ≤ x6.length ∧ p = .int .i64 (prevI x6 j) ∧ Wrt wr g (S6.need (allTo (fromOk x6) j)) ∧ Turned w wr g) (fun _ _ i _ => x6.length - (intOf i).toNat)
      case atStart => exact ⟨0, rfl, by omega, rfl, by rw [show allTo (fromOk x6) 0 = true from rfl, Out.need_true]; exact hW6, hT6⟩
      case round =>
        obtain ⟨j, rfl, hj, rfl, hW, hT⟩ := hrel
        by_cases hlt : j < x6.length
        · have hji : (j : Int) < (x6.length : Int) := by omega
          obtain ⟨b, off, rfl, hbB, d0⟩ := Ints.at_ (hT.rd hxr hB) hlt
          have hs := Lib.hid (hKf.out j hlt)
          have hs2 : Hid (allTo (fromOk x6) (j + 1) = (allTo (fromOk x6) j && fromOk x6 j)) := rfl
          have hs3 := Lib.hid (hKp.out j hlt)
          generalize x6[j] = y at *
          generalize prevI x6 j = pv at *
          go_wp2_with fail
          refine (need_any _ _ g _ hW).mono ?_
          rintro e w9 ⟨rfl, hW9, hT9⟩
          go_wp2_with fail
          go_roundw
          case rel => exact ⟨j + 1, by go_num, by omega, by rw [hs3.out], hW9.eq (by rw [Out.need_need, hs2.out, hs.out]), hT.trans hT9⟩
          case measure => simp [intOf]; omega
        · have hji : ¬ (j : Int) < (x6.length : Int) := by omega
          have hjl : Hid (j = x6.length) := show j = x6.length by omega
          go_wp2
          go_end0
          exact ⟨rfl, hW.eq (by rw [hE.out, ← hjl.out]), hT⟩
end Go.Proofs.Ytjjkdmngmopjbaa

namespace Go.Proofs.Ytjjkdmngmopjbaa
open Go.RowKit
set_option maxRecDepth 100000 in
set_option maxHeartbeats 1000000 in
theorem wheader_any (x : HeaderD) (hx : x.ok) (w : World) (g : Nat) (S : Out) (h : Wrt w g S) (hl : S.b.length + 2000 ≤ 70368744177000) :
    Calls Try.prog 115 #[.pointer (some ⟨g, 0, none⟩), x.val] w fun e w' => e = .returned (.tuple #[]) ∧ Wrt w' g (S.header x) ∧ Turned w w' g := by
  have hgt := h.lt
  have hE : Hid (S.header x = ((S.nums [x.c, x.h]).digs [x.p, x.t, x.g, x.s, x.r, x.b]).num x.o) := rfl
  obtain ⟨x1, x2, x3, x4, x5, x6, x7, x8, x9⟩ := x
  obtain ⟨⟨p0, p1⟩, ⟨t0, t1⟩, ⟨g0, g1⟩, ⟨s0, s1⟩, ⟨r0, r1⟩, ⟨b0, b1⟩⟩ := hx
  dsimp only at p0 p1 t0 t1 g0 g1 s0 s1 r0 r1 b0 b1
  dsimp only [HeaderD.val]
  go_enter Try.func115, Try.ntmps115
  go_wp2_with fail
  have ll1 := S.nums_len [x1, x2]
  simp only [List.length_cons, List.length_nil] at ll1
  refine (numbers_any [x1, x2] 2 _ g (w.heap.size + 1) S ((h.alloc _).alloc _) (by have hN := Blk.new (w.alloc (.cells #[.int .i64 x1, .int .i64 x2, .int .u64 x3, .int .u64 x4, .int .u64 x5, .int .u64 x6, .int .u64 x7, .int .u64 x8, .int .i64 x9] 27)) 3 #[.int .i64 x1, .int .i64 x2]; simpa using hN) (by omega) (by simp; omega)).mono ?_
  rintro e w1 ⟨rfl, hW1, hC1⟩
  have hB1 := hC1.blk ((Blk.new _ _ _).alloc _) (by omega) (by decide)
  have hT1 := (((Turned.refl w g).alloc (by omega) _).alloc (by simp; omega) _).trans hC1
  have hlt1 := hB1.lt
  have hgl1 := hW1.lt
  generalize S.nums [x1, x2] = S1 at *
  have c1_0 := (hB1.cell 0).trans (show _ = some (.int .i64 x1) from rfl)
  have c1_1 := (hB1.cell 1).trans (show _ = some (.int .i64 x2) from rfl)
  have c1_2 := (hB1.cell 2).trans (show _ = some (.int .u64 x3) from rfl)
  have c1_3 := (hB1.cell 3).trans (show _ = some (.int .u64 x4) from rfl)
  have c1_4 := (hB1.cell 4).trans (show _ = some (.int .u64 x5) from rfl)
  have c1_5 := (hB1.cell 5).trans (show _ = some (.int .u64 x6) from rfl)
  have c1_6 := (hB1.cell 6).trans (show _ = some (.int .u64 x7) from rfl)
  have c1_7 := (hB1.cell 7).trans (show _ = some (.int .u64 x8) from rfl)
  have c1_8 := (hB1.cell 8).trans (show _ = some (.int .i64 x9) from rfl)
  have c1_2 := (hB1.cell 2).trans (show _ = some (.int .u64 x3) from rfl)
  have c1_3 := (hB1.cell 3).trans (show _ = some (.int .u64 x4) from rfl)
  have c1_4 := (hB1.cell 4).trans (show _ = some (.int .u64 x5) from rfl)
  have c1_5 := (hB1.cell 5).trans (show _ = some (.int .u64 x6) from rfl)
  have c1_6 := (hB1.cell 6).trans (show _ = some (.int .u64 x7) from rfl)
  have c1_7 := (hB1.cell 7).trans (show _ = some (.int .u64 x8) from rfl)
  have hlq : ([x3, x4, x5, x6, x7, x8] : List Int).length = 6 := rfl
  have hdk : ∀ d ∈ [x3, x4, x5, x6, x7, x8], 0 ≤ d ∧ d < 18446744073709551616 := by
    intro d hd
    simp at hd
    rcases hd with rfl | rfl | rfl | rfl | rfl | rfl <;> omega
  have HDK := Lib.hid hdk
  clear hdk
  have hN : Blk (w1.alloc (.cells #[.int .u64 x3, .int .u64 x4, .int .u64 x5, .int .u64 x6, .int .u64 x7, .int .u64 x8] 23)) w1.heap.size 23 (([x3, x4, x5, x6, x7, x8] : List Int).map (Value.int .u64)).toArray := Blk.new _ _ _
  have hWn := hW1.alloc (.cells #[.int .u64 x3, .int .u64 x4, .int .u64 x5, .int .u64 x6, .int .u64 x7, .int .u64 x8] 23)
  have hBn := hB1.alloc (.cells #[.int .u64 x3, .int .u64 x4, .int .u64 x5, .int .u64 x6, .int .u64 x7, .int .u64 x8] 23)
  have hTn := hT1.alloc (by omega) (.cells #[.int .u64 x3, .int .u64 x4, .int .u64 x5, .int .u64 x6, .int .u64 x7, .int .u64 x8] 23)
  go_wp2_with fail
  generalize hdl : ([x3, x4, x5, x6, x7, x8] : List Int) = dl at *
  have HDL := Lib.hid hdl
  clear hdl
  go_loopw [5, 27] (fun _ i wr => ∃ j : Nat, i = .int .i64 (j : Int) ∧ j ≤ 6 ∧ Wrt wr g ((dl.take j).foldl Out.dig S1) ∧ Blk wr w1.heap.size 23 (dl.map (Value.int .u64)).toArray ∧ Blk wr w.heap.size 27 #[.int .i64 x1, .int .i64 x2, .int .u64 x3, .int .u64 x4, .int .u64 x5, .int .u64 x6, .int .u64 x7, .int .u64 x8, .int .i64 x9] ∧ Turned w wr g) (fun _ i _ => 6 - (intOf i).toNat)
  case atStart => exact ⟨0, rfl, by omega, by simpa using hWn, hN, hBn, hTn⟩
  case round =>
    obtain ⟨j, rfl, hj, hW, hDg, hBx, hT⟩ := hrel
    by_cases hlt : j < 6
    · have hji : (j : Int) < 6 := by omega
      have hl2 : j < dl.length := by omega
      have d0 : wr.cell? ⟨w1.heap.size, j, none⟩ = some (.int .u64 dl[j]) := (hDg.cell j).trans (by simp [List.getElem?_eq_getElem hl2])
      have HS := Lib.hid (fold_take Out.dig S1 dl j hl2)
      have hle := Out.digs_len S1 (dl.take j)
      have hle2 : (dl.take j).length ≤ j := by simp; omega
      have hdj := HDK.out dl[j] (List.getElem_mem hl2)
      generalize dl[j] = y at *
      unfold Out.digs at hle
      generalize (dl.take j).foldl Out.dig S1 = S7 at *
      go_wp2_with fail
      refine (digest_any _ _ g _ hW (by omega) (by omega) (by omega)).mono ?_
      rintro e w9 ⟨rfl, hW9, hC9⟩
      have hD9 := hC9.blk hDg (by omega) (by decide)
      have hB9 := hC9.blk hBx (by omega) (by decide)
      go_wp2_with fail
      go_roundw
      case rel => exact ⟨j + 1, by go_num, by omega, by rw [HS.out]; exact hW9, hD9, hB9, hT.trans hC9⟩
      case measure => simp [intOf]; omega
    · have hji : ¬ (j : Int) < 6 := by omega
      rw [List.take_of_length_le (by omega)] at hW
      have hle := Out.digs_len S1 dl
      have hEd : Hid (S1.digs dl = dl.foldl Out.dig S1) := rfl
      rw [hEd.out] at hle
      have k8 := (hBx.cell 8).trans (show _ = some (.int .i64 x9) from rfl)
      go_wp2_with fail
      refine (number_any _ _ g _ hW (by omega)).mono ?_
      rintro e w9 ⟨rfl, hW9, hC9⟩
      go_wp2_with fail
      go_end0
      exact ⟨rfl, hW9.eq (by rw [hE.out, hEd.out]), hT.trans hC9⟩
set_option maxRecDepth 100000 in
set_option maxHeartbeats 1000000 in
theorem wproof_any (x : ProofD) (B : Nat) (w : World) (g : Nat) (S : Out) (h : Wrt w g S) (hl : S.b.length + 40 * proofM x ≤ 59000000000000) (hx : x.held w B) (hB : B ≤ g) :
    Calls Try.prog 161 #[.pointer (some ⟨g, 0, none⟩), x.val] w fun e w' => e = .returned (.tuple #[]) ∧ Wrt w' g (S.proof x) ∧ Turned w w' g := by
  have hgt := h.lt
  have hE : Hid (S.proof x = (((((S.list x.turns 288 Out.turn).flag x.leaf).text x.key 32).text x.value 4096).need (allTo (turnOkAt x.turns) x.turns.length)).need (proofOk x)) := rfl
  have hK : Hid (proofOk x = ((x.leaf && !emp x.value) || (!x.leaf && decide (x.turns.length = 0) && emp x.key && emp x.value))) := rfl
  obtain ⟨ts, tA, tc, x2, x3, x4⟩ := x
  simp only [proofM, turns_M] at hl
  dsimp only [ProofD.val]
  obtain ⟨hxr, hxs, hxd⟩ := hx
  dsimp only at hxr hxs hxd
  have hsw := turns_W ts
  go_enter Try.func161, Try.ntmps161
  go_wp2_with fail
  refine (putsTurn_any ts tA tc B 288 _ g _ (h.alloc _) (((Turned.refl w g).alloc (by omega) _).rd hxr hB) hB hxd (by omega) hxs).mono ?_
  rintro e w1 ⟨rfl, hW1, hC1⟩
  have hB1 := hC1.blk (Blk.new _ _ _) (by omega) (by decide)
  have hT1 := ((Turned.refl w g).alloc (by omega) _).trans hC1
  have hlt1 := hB1.lt
  have hgl1 := hW1.lt
  have ll1 := list_len Out.turn turnW Out.turn_lenW ts 288 S
  generalize S.list ts 288 Out.turn = S1 at *
  have c1_0 := (hB1.cell 0).trans (show _ = some (.slice tA ts.length tc) from rfl)
  have c1_1 := (hB1.cell 1).trans (show _ = some (.bool x2) from rfl)
  have c1_2 := (hB1.cell 2).trans (show _ = some (.string (bs x3)) from rfl)
  have c1_3 := (hB1.cell 3).trans (show _ = some (.string (bs x4)) from rfl)
  go_wp2_with fail
  refine (flag_any _ _ g _ hW1 (by omega)).mono ?_
  rintro e w2 ⟨rfl, hW2, hC2⟩
  have hB2 := hC2.blk hB1 (by omega) (by decide)
  have hT2 := hT1.trans hC2
  have hlt2 := hB2.lt
  have hgl2 := hW2.lt
  have ll2 := (by simp [Out.flag] : (S1.flag x2).b.length ≤ S1.b.length + 1)
  generalize S1.flag x2 = S2 at *
  have c2_0 := (hB2.cell 0).trans (show _ = some (.slice tA ts.length tc) from rfl)
  have c2_1 := (hB2.cell 1).trans (show _ = some (.bool x2) from rfl)
  have c2_2 := (hB2.cell 2).trans (show _ = some (.string (bs x3)) from rfl)
  have c2_3 := (hB2.cell 3).trans (show _ = some (.string (bs x4)) from rfl)
  go_wp2_with fail
  refine (text_anyW x3 32 _ g _ hW2 (by omega)).mono ?_
  rintro e w3 ⟨rfl, hW3, hC3⟩
  have hB3 := hC3.blk hB2 (by omega) (by decide)
  have hT3 := hT2.trans hC3
  have hlt3 := hB3.lt
  have hgl3 := hW3.lt
  have ll3 := S2.text_len x3 32
  generalize S2.text x3 32 = S3 at *
  have c3_0 := (hB3.cell 0).trans (show _ = some (.slice tA ts.length tc) from rfl)
  have c3_1 := (hB3.cell 1).trans (show _ = some (.bool x2) from rfl)
  have c3_2 := (hB3.cell 2).trans (show _ = some (.string (bs x3)) from rfl)
  have c3_3 := (hB3.cell 3).trans (show _ = some (.string (bs x4)) from rfl)
  go_wp2_with fail
  refine (text_anyW x4 4096 _ g _ hW3 (by omega)).mono ?_
  rintro e w4 ⟨rfl, hW4, hC4⟩
  have hB4 := hC4.blk hB3 (by omega) (by decide)
  have hT4 := hT3.trans hC4
  have hlt4 := hB4.lt
  have hgl4 := hW4.lt
  have ll4 := S3.text_len x4 4096
  generalize S3.text x4 4096 = S4 at *
  have c4_0 := (hB4.cell 0).trans (show _ = some (.slice tA ts.length tc) from rfl)
  have c4_1 := (hB4.cell 1).trans (show _ = some (.bool x2) from rfl)
  have c4_2 := (hB4.cell 2).trans (show _ = some (.string (bs x3)) from rfl)
  have c4_3 := (hB4.cell 3).trans (show _ = some (.string (bs x4)) from rfl)
  have hKf : Hid (∀ j (h : j < ts.length), turnOkAt ts j = decide (prevT ts j < ts[j].p)) := by
    intro j h
    simp [turnOkAt, List.getElem?_eq_getElem h]
  have hKp : Hid (∀ j (h : j < ts.length), prevT ts (j + 1) = ts[j].p) := by
    intro j h
    simp [prevT, List.getElem?_eq_getElem h]
  go_wp2_with fail
  go_loopw [4, 6, 26] (fun p _ i wr => ∃ j : Nat, i = .int .i64 (j : Int) ∧ j ≤ ts.length ∧ p = .int .i64 (prevT ts j) ∧ Wrt wr g (S4.need (allTo (turnOkAt ts) j)) ∧ Blk wr w.heap.size 70 #[.slice tA ts.length tc, .bool x2, .string (bs x3), .string (bs x4)] ∧ Turned w wr g) (fun _ _ i _ => ts.length - (intOf i).toNat)
  case atStart => exact ⟨0, rfl, by omega, rfl, by rw [show allTo (turnOkAt ts) 0 = true from rfl, Out.need_true]; exact hW4, hB4, hT4⟩
  case round =>
    obtain ⟨j, rfl, hj, rfl, hW, hBx, hT⟩ := hrel
    have hgw := hW.lt
    by_cases hlt : j < ts.length
    · have hji : (j : Int) < (ts.length : Int) := by omega
      obtain ⟨b, off, rfl, hbB, hc⟩ := TurnsL.at_ (hT.rd hxr hB) hlt
      have hs := Lib.hid (hKf.out j hlt)
      have hs2 : Hid (allTo (turnOkAt ts) (j + 1) = (allTo (turnOkAt ts) j && turnOkAt ts j)) := rfl
      have hs3 := Lib.hid (hKp.out j hlt)
      have d0 : wr.cell? ⟨b, off + j * 2, none⟩ = some (.int .i64 ts[j].p) := hc 0 _ rfl
      have d1 : wr.cell? ⟨b, off + j * 2 + 1, none⟩ = some (.int .u64 ts[j].d) := hc 1 _ rfl
      generalize ts[j] = y at *
      clear hc
      generalize prevT ts j = pv at *
      go_wp2_with fail
      refine (need_any _ _ g _ (hW.alloc _)).mono ?_
      rintro e w9 ⟨rfl, hW9, hT9⟩
      have hB9 := hT9.blk (Blk.new _ _ _) (by omega) (by decide)
      have hBx9 := hT9.blk (hBx.alloc _) (by omega) (by decide)
      have d2 := (hB9.cell 0).trans (show _ = some (.int .i64 y.p) from rfl)
      go_wp2_with fail
      go_roundw
      case rel => exact ⟨j + 1, by go_num, by omega, by rw [hs3.out], hW9.eq (by rw [Out.need_need, hs2.out, hs.out]), hBx9, (hT.alloc (Nat.le_of_lt hgw) _).trans hT9⟩
      case measure => simp [intOf]; omega
    · have hji : ¬ (j : Int) < (ts.length : Int) := by omega
      have hjl : Hid (j = ts.length) := show j = ts.length by omega
      have k0 := (hBx.cell 0).trans (show _ = some (.slice tA ts.length tc) from rfl)
      have k1 := (hBx.cell 1).trans (show _ = some (.bool x2) from rfl)
      have k2 := (hBx.cell 2).trans (show _ = some (.string (bs x3)) from rfl)
      have k3 := (hBx.cell 3).trans (show _ = some (.string (bs x4)) from rfl)
      go_wp2_with fail
      all_goals
        refine (need_any _ _ g _ hW).mono ?_
        rintro e w9 ⟨rfl, hW9, hT9⟩
        go_wp2_with fail
        go_end0
        exact ⟨rfl, hW9.eq (by rw [hE.out, hK.out, ← hjl.out]; congr 1; first | grind [emp] | (cases x2 <;> cases x3 <;> cases x4 <;> simp_all [emp])), hT.trans hT9⟩
set_option maxRecDepth 100000 in
set_option maxHeartbeats 1000000 in
theorem wsight_any (x : SightD) (B : Nat) (w : World) (g : Nat) (S : Out) (h : Wrt w g S) (hl : S.b.length + 40 * sightM x ≤ 58999999990000) (hx : x.held w B) (hB : B ≤ g) :
    Calls Try.prog 182 #[.pointer (some ⟨g, 0, none⟩), x.val] w fun e w' => e = .returned (.tuple #[]) ∧ Wrt w' g (S.sight x) ∧ Turned w w' g := by
  have hgt := h.lt
  have hE : Hid (S.sight x = ((S.header x.header).cert x.cert).bench x.seats) := rfl
  obtain ⟨⟨h1, h2, h3, h4, h5, h6, h7, h8, h9⟩, ⟨c1, c2, c3, c4, c5, c6, c6a, c6c⟩, ss, sA, sc⟩ := x
  simp only [sightM, headerM] at hl
  dsimp only [SightD.val]
  obtain ⟨hxh, hxc, hxr, hxs⟩ := hx
  dsimp only at hxh hxc hxr hxs
  go_enter Try.func182, Try.ntmps182
  go_wp2_with fail
  refine (wheader_any ⟨h1, h2, h3, h4, h5, h6, h7, h8, h9⟩ hxh _ g _ (h.alloc _) (by omega)).mono ?_
  rintro e w1 ⟨rfl, hW1, hC1⟩
  have hB1 := hC1.blk (Blk.new _ _ _) (by omega) (by decide)
  have hT1 := ((Turned.refl w g).alloc (by omega) _).trans hC1
  have hlt1 := hB1.lt
  have hgl1 := hW1.lt
  have ll1 := S.header_len ⟨h1, h2, h3, h4, h5, h6, h7, h8, h9⟩
  generalize S.header ⟨h1, h2, h3, h4, h5, h6, h7, h8, h9⟩ = S1 at *
  have c1_0 := (hB1.cell 0).trans (show _ = some (.int .i64 h1) from rfl)
  have c1_1 := (hB1.cell 1).trans (show _ = some (.int .i64 h2) from rfl)
  have c1_2 := (hB1.cell 2).trans (show _ = some (.int .u64 h3) from rfl)
  have c1_3 := (hB1.cell 3).trans (show _ = some (.int .u64 h4) from rfl)
  have c1_4 := (hB1.cell 4).trans (show _ = some (.int .u64 h5) from rfl)
  have c1_5 := (hB1.cell 5).trans (show _ = some (.int .u64 h6) from rfl)
  have c1_6 := (hB1.cell 6).trans (show _ = some (.int .u64 h7) from rfl)
  have c1_7 := (hB1.cell 7).trans (show _ = some (.int .u64 h8) from rfl)
  have c1_8 := (hB1.cell 8).trans (show _ = some (.int .i64 h9) from rfl)
  have c1_9 := (hB1.cell 9).trans (show _ = some (.int .i64 c1) from rfl)
  have c1_10 := (hB1.cell 10).trans (show _ = some (.int .i64 c2) from rfl)
  have c1_11 := (hB1.cell 11).trans (show _ = some (.int .i64 c3) from rfl)
  have c1_12 := (hB1.cell 12).trans (show _ = some (.bool c4) from rfl)
  have c1_13 := (hB1.cell 13).trans (show _ = some (.int .u64 c5) from rfl)
  have c1_14 := (hB1.cell 14).trans (show _ = some (.slice c6a c6.length c6c) from rfl)
  have c1_15 := (hB1.cell 15).trans (show _ = some (.slice sA ss.length sc) from rfl)
  go_wp2_with fail
  refine (wcert_any ⟨c1, c2, c3, c4, c5, c6, c6a, c6c⟩ B _ g _ hW1 (by omega) (hxc.below (hT1.low.mono hB)) hB).mono ?_
  rintro e w2 ⟨rfl, hW2, hC2⟩
  have hB2 := hC2.blk hB1 (by omega) (by decide)
  have hT2 := hT1.trans hC2
  have hlt2 := hB2.lt
  have hgl2 := hW2.lt
  have ll2 := S1.cert_len ⟨c1, c2, c3, c4, c5, c6, c6a, c6c⟩
  generalize S1.cert ⟨c1, c2, c3, c4, c5, c6, c6a, c6c⟩ = S2 at *
  have c2_0 := (hB2.cell 0).trans (show _ = some (.int .i64 h1) from rfl)
  have c2_1 := (hB2.cell 1).trans (show _ = some (.int .i64 h2) from rfl)
  have c2_2 := (hB2.cell 2).trans (show _ = some (.int .u64 h3) from rfl)
  have c2_3 := (hB2.cell 3).trans (show _ = some (.int .u64 h4) from rfl)
  have c2_4 := (hB2.cell 4).trans (show _ = some (.int .u64 h5) from rfl)
  have c2_5 := (hB2.cell 5).trans (show _ = some (.int .u64 h6) from rfl)
  have c2_6 := (hB2.cell 6).trans (show _ = some (.int .u64 h7) from rfl)
  have c2_7 := (hB2.cell 7).trans (show _ = some (.int .u64 h8) from rfl)
  have c2_8 := (hB2.cell 8).trans (show _ = some (.int .i64 h9) from rfl)
  have c2_9 := (hB2.cell 9).trans (show _ = some (.int .i64 c1) from rfl)
  have c2_10 := (hB2.cell 10).trans (show _ = some (.int .i64 c2) from rfl)
  have c2_11 := (hB2.cell 11).trans (show _ = some (.int .i64 c3) from rfl)
  have c2_12 := (hB2.cell 12).trans (show _ = some (.bool c4) from rfl)
  have c2_13 := (hB2.cell 13).trans (show _ = some (.int .u64 c5) from rfl)
  have c2_14 := (hB2.cell 14).trans (show _ = some (.slice c6a c6.length c6c) from rfl)
  have c2_15 := (hB2.cell 15).trans (show _ = some (.slice sA ss.length sc) from rfl)
  go_wp2_with fail
  refine (wbench_any ss sA sc B _ g _ hW2 (hT2.rd hxr hB) hB (by omega) hxs).mono ?_
  rintro e w3 ⟨rfl, hW3, hC3⟩
  have hB3 := hC3.blk hB2 (by omega) (by decide)
  have hT3 := hT2.trans hC3
  have hlt3 := hB3.lt
  have hgl3 := hW3.lt
  generalize S2.bench ss = S3 at *
  go_wp2_with fail
  go_end0
  exact ⟨rfl, Wrt.eq hW3 (by rw [hE.out] <;> rfl), hT3⟩
end Go.Proofs.Ytjjkdmngmopjbaa

namespace Go.Proofs.Ytjjkdmngmopjbaa
open Go.RowKit
set_option maxRecDepth 100000 in
set_option maxHeartbeats 400000 in
theorem write_cert (x : CertD) (B : Nat) (w : World) (hx : x.held w B) (hB : B ≤ w.heap.size) (hl : certM x ≤ 10000000) :
    Calls Try.prog 151 #[x.val, .func (.func 142) #[] #[]] w fun e w' => e = .returned (.tuple #[.string (bs (Out.empty.cert x).rs), .int .i64 (Out.empty.cert x).re]) ∧ Below w.heap.size w w' := by
  obtain ⟨x1, x2, x3, x4, x5, x6, x6a, x6c⟩ := x
  dsimp only [CertD.val]
  go_enter Try.func151, Try.ntmps151
  go_wp2_with fail
  refine (wcert_any ⟨x1, x2, x3, x4, x5, x6, x6a, x6c⟩ B _ (w.heap.size + 1) _ (by have hN := Wrt.new (w.alloc (.cells #[.int .i64 x1, .int .i64 x2, .int .i64 x3, .bool x4, .int .u64 x5, .slice x6a x6.length x6c] 37)); simpa using hN) (by simp [Out.empty]; omega) (by first | exact hx.below (((Below.refl B w).alloc hB _).alloc (by simp; omega) _) | exact hx) (by omega)).mono ?_
  rintro e w1 ⟨rfl, ⟨v, hb, ho⟩, hT1⟩
  have hgl := hb.lt
  have hS := hT1.size
  have hBel : Below w.heap.size w w1 := (((Below.refl _ _).alloc (Nat.le_refl _) _).alloc (by simp) _ |>.trans (hT1.low.mono (by omega)))
  generalize hSE : Out.empty.cert ⟨x1, x2, x3, x4, x5, x6, x6a, x6c⟩ = S1 at *
  have HSE := Lib.hid hSE
  clear hSE
  have c0 := (hb.cell 0).trans (show _ = some v from rfl)
  have c1 := (hb.cell 1).trans (show _ = some (Value.bool S1.far) from rfl)
  have c2 := (hb.cell 2).trans (show _ = some (Value.bool S1.odd) from rfl)
  have hcv := conv_own w1 ho
  clear hb ho
  obtain ⟨b, far, odd⟩ := S1
  dsimp only at *
  cases far
  · cases odd
    · go_wp2_with fail
      go_ret2
      exact ⟨by rw [HSE.out]; rfl, hBel⟩
    · go_wp2_with fail
      go_ret2
      exact ⟨by rw [HSE.out]; rfl, hBel⟩
  · go_wp2_with fail
    go_ret2
    exact ⟨by rw [HSE.out]; rfl, hBel⟩
set_option maxRecDepth 100000 in
theorem put_cert (x : CertD) (B : Nat) (w : World) (hx : x.held w B) (hB : B ≤ w.heap.size) (hl : certM x ≤ 10000000) :
    Calls Try.prog 123 #[x.val] w fun e w' => e = .returned (.tuple #[.string (bs (Out.empty.cert x).rs), .int .i64 (Out.empty.cert x).re]) ∧ Below w.heap.size w w' := by
  have hWr := write_cert x B (w.alloc (.cells #[.int .i64 x.h, .int .i64 x.r, .int .i64 x.s, .bool x.has, .int .u64 x.b, .slice x.fa x.froms.length x.fc] 37)) (by first | exact hx | exact hx.below ((Below.refl B w).alloc hB _)) (by simp; omega) hl
  generalize Out.empty.cert x = S1 at *
  obtain ⟨x1, x2, x3, x4, x5, x6, x6a, x6c⟩ := x
  dsimp only [CertD.val] at *
  go_enter Try.func123, Try.ntmps123
  go_wp2_with fail
  refine hWr.mono ?_
  rintro e w1 ⟨rfl, hb⟩
  go_wp2_with fail
  go_ret2
  exact ⟨rfl, ((Below.refl _ _).alloc (Nat.le_refl _) _).trans (hb.mono (by simp))⟩
set_option maxRecDepth 100000 in
set_option maxHeartbeats 400000 in
theorem rput_cert (x : CertD) (B : Nat) (w : World) (hx : x.held w B) (hB : B ≤ w.heap.size) (hl : certM x ≤ 10000000) :
    Calls Try.prog 82 #[x.val] w fun e w' => e = .returned (.tuple #[.string (bs (Out.empty.cert x).rs), .int .i64 (Out.empty.cert x).re]) ∧ Below w.heap.size w w' := by
  obtain ⟨x1, x2, x3, x4, x5, x6, x6a, x6c⟩ := x
  dsimp only [CertD.val]
  go_enter Try.func82, Try.ntmps82
  go_wp2_with fail
  refine (rcert_any ⟨x1, x2, x3, x4, x5, x6, x6a, x6c⟩ B _ (w.heap.size + 1) _ (by have hN := Ref.new (w.alloc (.cells #[.int .i64 x1, .int .i64 x2, .int .i64 x3, .bool x4, .int .u64 x5, .slice x6a x6.length x6c] 37)); simpa using hN) (by simp [Out.empty]; omega) (by first | exact hx.below (((Below.refl B w).alloc hB _).alloc (by simp; omega) _) | exact hx) (by omega)).mono ?_
  rintro e w1 ⟨rfl, hW1, hT1⟩
  have hgl1 := hW1.lt
  have hS := hT1.size
  have hBel : Below w.heap.size w w1 := (((Below.refl _ _).alloc (Nat.le_refl _) _).alloc (by simp) _ |>.trans (hT1.low.mono (by omega)))
  go_wp2_with fail
  refine (rout_any _ _ _ hW1).mono ?_
  rintro e w9 ⟨rfl, rfl⟩
  go_wp2_with fail
  go_ret2
  exact ⟨rfl, hBel⟩
set_option maxRecDepth 100000 in
set_option maxHeartbeats 400000 in
theorem write_proof (x : ProofD) (B : Nat) (w : World) (hx : x.held w B) (hB : B ≤ w.heap.size) (hl : proofM x ≤ 10000000) :
    Calls Try.prog 160 #[x.val, .func (.func 161) #[] #[]] w fun e w' => e = .returned (.tuple #[.string (bs (Out.empty.proof x).rs), .int .i64 (Out.empty.proof x).re]) ∧ Below w.heap.size w w' := by
  obtain ⟨x1, x1a, x1c, x2, x3, x4⟩ := x
  dsimp only [ProofD.val]
  go_enter Try.func160, Try.ntmps160
  go_wp2_with fail
  refine (wproof_any ⟨x1, x1a, x1c, x2, x3, x4⟩ B _ (w.heap.size + 1) _ (by have hN := Wrt.new (w.alloc (.cells #[.slice x1a x1.length x1c, .bool x2, .string (bs x3), .string (bs x4)] 70)); simpa using hN) (by simp [Out.empty]; omega) (by first | exact hx.below (((Below.refl B w).alloc hB _).alloc (by simp; omega) _) | exact hx) (by omega)).mono ?_
  rintro e w1 ⟨rfl, ⟨v, hb, ho⟩, hT1⟩
  have hgl := hb.lt
  have hS := hT1.size
  have hBel : Below w.heap.size w w1 := (((Below.refl _ _).alloc (Nat.le_refl _) _).alloc (by simp) _ |>.trans (hT1.low.mono (by omega)))
  generalize hSE : Out.empty.proof ⟨x1, x1a, x1c, x2, x3, x4⟩ = S1 at *
  have HSE := Lib.hid hSE
  clear hSE
  have c0 := (hb.cell 0).trans (show _ = some v from rfl)
  have c1 := (hb.cell 1).trans (show _ = some (Value.bool S1.far) from rfl)
  have c2 := (hb.cell 2).trans (show _ = some (Value.bool S1.odd) from rfl)
  have hcv := conv_own w1 ho
  clear hb ho
  obtain ⟨b, far, odd⟩ := S1
  dsimp only at *
  cases far
  · cases odd
    · go_wp2_with fail
      go_ret2
      exact ⟨by rw [HSE.out]; rfl, hBel⟩
    · go_wp2_with fail
      go_ret2
      exact ⟨by rw [HSE.out]; rfl, hBel⟩
  · go_wp2_with fail
    go_ret2
    exact ⟨by rw [HSE.out]; rfl, hBel⟩
set_option maxRecDepth 100000 in
theorem put_proof (x : ProofD) (B : Nat) (w : World) (hx : x.held w B) (hB : B ≤ w.heap.size) (hl : proofM x ≤ 10000000) :
    Calls Try.prog 132 #[x.val] w fun e w' => e = .returned (.tuple #[.string (bs (Out.empty.proof x).rs), .int .i64 (Out.empty.proof x).re]) ∧ Below w.heap.size w w' := by
  have hWr := write_proof x B (w.alloc (.cells #[.slice x.ta x.turns.length x.tc, .bool x.leaf, .string (bs x.key), .string (bs x.value)] 70)) (by first | exact hx | exact hx.below ((Below.refl B w).alloc hB _)) (by simp; omega) hl
  generalize Out.empty.proof x = S1 at *
  obtain ⟨x1, x1a, x1c, x2, x3, x4⟩ := x
  dsimp only [ProofD.val] at *
  go_enter Try.func132, Try.ntmps132
  go_wp2_with fail
  refine hWr.mono ?_
  rintro e w1 ⟨rfl, hb⟩
  go_wp2_with fail
  go_ret2
  exact ⟨rfl, ((Below.refl _ _).alloc (Nat.le_refl _) _).trans (hb.mono (by simp))⟩
set_option maxRecDepth 100000 in
set_option maxHeartbeats 400000 in
theorem rput_proof (x : ProofD) (B : Nat) (w : World) (hx : x.held w B) (hB : B ≤ w.heap.size) (hl : proofM x ≤ 10000000) :
    Calls Try.prog 135 #[x.val] w fun e w' => e = .returned (.tuple #[.string (bs (Out.empty.proof x).rs), .int .i64 (Out.empty.proof x).re]) ∧ Below w.heap.size w w' := by
  obtain ⟨x1, x1a, x1c, x2, x3, x4⟩ := x
  dsimp only [ProofD.val]
  go_enter Try.func135, Try.ntmps135
  go_wp2_with fail
  refine (rproof_any ⟨x1, x1a, x1c, x2, x3, x4⟩ B _ (w.heap.size + 1) _ (by have hN := Ref.new (w.alloc (.cells #[.slice x1a x1.length x1c, .bool x2, .string (bs x3), .string (bs x4)] 70)); simpa using hN) (by simp [Out.empty]; omega) (by first | exact hx.below (((Below.refl B w).alloc hB _).alloc (by simp; omega) _) | exact hx) (by omega)).mono ?_
  rintro e w1 ⟨rfl, hW1, hT1⟩
  have hgl1 := hW1.lt
  have hS := hT1.size
  have hBel : Below w.heap.size w w1 := (((Below.refl _ _).alloc (Nat.le_refl _) _).alloc (by simp) _ |>.trans (hT1.low.mono (by omega)))
  go_wp2_with fail
  refine (rout_any _ _ _ hW1).mono ?_
  rintro e w9 ⟨rfl, rfl⟩
  go_wp2_with fail
  go_ret2
  exact ⟨rfl, hBel⟩
set_option maxRecDepth 100000 in
set_option maxHeartbeats 400000 in
theorem write_header (x : HeaderD) (hx : x.ok) (w : World) :
    Calls Try.prog 114 #[x.val, .func (.func 115) #[] #[]] w fun e w' => e = .returned (.tuple #[.string (bs (Out.empty.header x).rs), .int .i64 (Out.empty.header x).re]) ∧ Below w.heap.size w w' := by
  obtain ⟨x1, x2, x3, x4, x5, x6, x7, x8, x9⟩ := x
  dsimp only [HeaderD.val]
  go_enter Try.func114, Try.ntmps114
  go_wp2_with fail
  refine (wheader_any ⟨x1, x2, x3, x4, x5, x6, x7, x8, x9⟩ hx _ (w.heap.size + 1) _ (by have hN := Wrt.new (w.alloc (.cells #[.int .i64 x1, .int .i64 x2, .int .u64 x3, .int .u64 x4, .int .u64 x5, .int .u64 x6, .int .u64 x7, .int .u64 x8, .int .i64 x9] 27)); simpa using hN) (by simp [Out.empty])).mono ?_
  rintro e w1 ⟨rfl, ⟨v, hb, ho⟩, hT1⟩
  have hgl := hb.lt
  have hS := hT1.size
  have hBel : Below w.heap.size w w1 := (((Below.refl _ _).alloc (Nat.le_refl _) _).alloc (by simp) _ |>.trans (hT1.low.mono (by omega)))
  generalize hSE : Out.empty.header ⟨x1, x2, x3, x4, x5, x6, x7, x8, x9⟩ = S1 at *
  have HSE := Lib.hid hSE
  clear hSE
  have c0 := (hb.cell 0).trans (show _ = some v from rfl)
  have c1 := (hb.cell 1).trans (show _ = some (Value.bool S1.far) from rfl)
  have c2 := (hb.cell 2).trans (show _ = some (Value.bool S1.odd) from rfl)
  have hcv := conv_own w1 ho
  clear hb ho
  obtain ⟨b, far, odd⟩ := S1
  dsimp only at *
  cases far
  · cases odd
    · go_wp2_with fail
      go_ret2
      exact ⟨by rw [HSE.out]; rfl, hBel⟩
    · go_wp2_with fail
      go_ret2
      exact ⟨by rw [HSE.out]; rfl, hBel⟩
  · go_wp2_with fail
    go_ret2
    exact ⟨by rw [HSE.out]; rfl, hBel⟩
set_option maxRecDepth 100000 in
theorem put_header (x : HeaderD) (hx : x.ok) (w : World) :
    Calls Try.prog 73 #[x.val] w fun e w' => e = .returned (.tuple #[.string (bs (Out.empty.header x).rs), .int .i64 (Out.empty.header x).re]) ∧ Below w.heap.size w w' := by
  have hWr := write_header x hx
  generalize Out.empty.header x = S1 at *
  obtain ⟨x1, x2, x3, x4, x5, x6, x7, x8, x9⟩ := x
  dsimp only [HeaderD.val] at *
  go_enter Try.func73, Try.ntmps73
  go_wp2_with fail
  refine (hWr (w.alloc (.cells #[.int .i64 x1, .int .i64 x2, .int .u64 x3, .int .u64 x4, .int .u64 x5, .int .u64 x6, .int .u64 x7, .int .u64 x8, .int .i64 x9] 27))).mono ?_
  rintro e w1 ⟨rfl, hb⟩
  go_wp2_with fail
  go_ret2
  exact ⟨rfl, ((Below.refl _ _).alloc (Nat.le_refl _) _).trans (hb.mono (by simp))⟩
set_option maxRecDepth 100000 in
set_option maxHeartbeats 400000 in
theorem rput_header (x : HeaderD) (hx : x.ok) (w : World) :
    Calls Try.prog 75 #[x.val] w fun e w' => e = .returned (.tuple #[.string (bs (Out.empty.header x).rs), .int .i64 (Out.empty.header x).re]) ∧ Below w.heap.size w w' := by
  obtain ⟨x1, x2, x3, x4, x5, x6, x7, x8, x9⟩ := x
  dsimp only [HeaderD.val]
  go_enter Try.func75, Try.ntmps75
  go_wp2_with fail
  refine (rheader_any ⟨x1, x2, x3, x4, x5, x6, x7, x8, x9⟩ hx _ (w.heap.size + 1) _ (by have hN := Ref.new (w.alloc (.cells #[.int .i64 x1, .int .i64 x2, .int .u64 x3, .int .u64 x4, .int .u64 x5, .int .u64 x6, .int .u64 x7, .int .u64 x8, .int .i64 x9] 27)); simpa using hN) (by simp [Out.empty])).mono ?_
  rintro e w1 ⟨rfl, hW1, hT1⟩
  have hgl1 := hW1.lt
  have hS := hT1.size
  have hBel : Below w.heap.size w w1 := (((Below.refl _ _).alloc (Nat.le_refl _) _).alloc (by simp) _ |>.trans (hT1.low.mono (by omega)))
  go_wp2_with fail
  refine (rout_any _ _ _ hW1).mono ?_
  rintro e w9 ⟨rfl, rfl⟩
  go_wp2_with fail
  go_ret2
  exact ⟨rfl, hBel⟩
end Go.Proofs.Ytjjkdmngmopjbaa
