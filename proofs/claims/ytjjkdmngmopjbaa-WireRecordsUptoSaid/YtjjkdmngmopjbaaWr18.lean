/- The reference's writer: a transaction. -/
import Derived.Test.YtjjkdmngmopjbaaProg
import Derived.Test.YtjjkdmngmopjbaaWr17
namespace Go.Proofs.Ytjjkdmngmopjbaa
open Go.RowKit
theorem Ref.below {w w' : World} {g : Nat} {S : Out} (h : Ref w g S) (hb : Below w.heap.size w w') : Ref w' g S := by
  have hg := h.lt
  obtain ⟨l, o, hB, r⟩ := h
  exact ⟨l, o, hB.below hb hg, r⟩
theorem Turned.ofBelow {a w w' : World} {g : Nat} (h : Turned a w g) (hb : Below w.heap.size w w') (hg : g ≤ w.heap.size) : Turned a w' g := h.trans ⟨hb.mono hg, fun k hk _ _ => hb.block k hk⟩
def inB (k : Int) (l : List Int) : Bool := l.any fun y => y == k
theorem inB_stop (k : Int) (l : List Int) (i : Nat) (h : i < l.length) (e : l[i] = k) : inB k l = true := by
  unfold inB
  rw [List.any_eq_true]
  exact ⟨l[i], List.getElem_mem h, by simp [e]⟩
theorem inB_none (k : Int) (l : List Int) (h : ∀ i (hi : i < l.length), l[i] ≠ k) : inB k l = false := by
  unfold inB
  rw [List.any_eq_false]
  intro x hx
  obtain ⟨i, hi, rfl⟩ := List.getElem_of_mem hx
  simpa using h i hi
set_option maxRecDepth 100000 in
theorem rin_any (k : Int) (l : List Int) (c q : Nat) (w : World) (hq : Blk w q 3 (l.map (Value.int .i64)).toArray) (hl : l.length ≤ 100) :
    Calls Try.prog 176 #[.int .i64 k, .slice (some ⟨q, 0, none⟩) l.length c] w fun e w' => e = .returned (.bool (inB k l)) ∧ w = w' := by
  go_enter Try.func176, Try.ntmps176
  go_wp2
  go_loop [5] (fun i => ∃ j : Nat, i = .int .i64 (j : Int) ∧ j ≤ l.length ∧ ∀ i (hi : i < l.length), i < j → l[i] ≠ k) (fun i => l.length - (intOf i).toNat)
  case atStart => exact ⟨0, rfl, by omega, fun i _ h => absurd h (by omega)⟩
  case round =>
    obtain ⟨j, rfl, hj, hno⟩ := hrel
    have HN := Lib.hid hno
    clear hno
    by_cases hlt : j < l.length
    · have hji : (j : Int) < (l.length : Int) := by omega
      have c0 : w.cell? ⟨q, j, none⟩ = some (.int .i64 l[j]) := (hq.cell j).trans (by simp [List.getElem?_eq_getElem hlt])
      by_cases he : l[j] = k
      · have hb : (l[j] == k) = true := by simp [he]
        have HR := Lib.hid (inB_stop k l j hlt he)
        clear he
        go_wp2_with fail
        go_ret
        exact ⟨by rw [HR.out]; rfl, rfl⟩
      · have hb : (l[j] == k) = false := by simp [he]
        have HE := Lib.hid he
        clear he
        go_wp2_with fail
        go_round
        case rel => exact ⟨j + 1, by go_num, by omega, fun i hi h => by
          by_cases hij : i = j
          · subst hij; exact HE.out
          · exact HN.out i hi (by omega)⟩
        case measure => simp [intOf]; omega
    · have hji : ¬ (j : Int) < (l.length : Int) := by omega
      have HR := Lib.hid (inB_none k l fun i hi => HN.out i hi (by omega))
      go_wp2_with fail
      go_ret
      exact ⟨by rw [HR.out]; rfl, rfl⟩
theorem in_to (k : Int) : inB k [1, 3, 7, 8] = toF k := by
  simp only [inB, toF, List.any_cons, List.any_nil, Bool.or_false]
  rw [Bool.eq_iff_iff]
  simp
  omega
theorem in_am (k : Int) : (toF k || inB k [2, 4, 5]) = amountF k := by
  simp only [inB, amountF, List.any_cons, List.any_nil, Bool.or_false]
  rw [Bool.eq_iff_iff]
  simp
  grind
/-! ### far stays far -/
theorem far_num (S : Out) (n : Int) (h : (S.num n).far = false) : S.far = false := by
  have : (S.far || farN n) = false := h
  simp only [Bool.or_eq_false_iff] at this
  exact this.1
theorem far_lim (S : Out) (n m : Int) (h : (S.lim n m).far = false) : S.far = false := by
  have : (S.far || decide (m < n)) = false := h
  simp only [Bool.or_eq_false_iff] at this
  exact this.1
theorem far_fold {α : Type} (f : Out → α → Out) (hf : ∀ S x, (f S x).far = false → S.far = false) (l : List α) (S : Out) (h : (l.foldl f S).far = false) : S.far = false := by
  induction l generalizing S with
  | nil => exact h
  | cons x l ih => exact hf _ _ (ih _ h)
theorem far_list {α : Type} (f : Out → α → Out) (hf : ∀ S x, (f S x).far = false → S.far = false) (l : List α) (m : Int) (S : Out) (h : (S.list l m f).far = false) : S.far = false :=
  far_lim _ _ _ (far_num _ _ (far_fold f hf l _ h))
theorem far_text (S : Out) (s : List UInt8) (m : Int) (h : (S.text s m).far = false) : S.far = false := far_lim _ _ _ (far_num _ _ h)
theorem far_seat (S : Out) (x : Seat) (h : (S.seat x).far = false) : S.far = false := far_num _ _ (far_num _ _ h)
theorem far_turn (S : Out) (x : TurnD) (h : (S.turn x).far = false) : S.far = false := far_num _ _ (far_lim _ _ _ h)
theorem far_header (S : Out) (x : HeaderD) (h : (S.header x).far = false) : S.far = false := far_num _ _ (far_num _ _ (far_num _ _ h))
theorem far_cert (S : Out) (x : CertD) (h : (S.cert x).far = false) : S.far = false := by
  have h1 : ((((S.nums [x.h, x.r, x.s]).flag x.has).dig x.b).list x.froms 7 Out.num).far = false := h
  have h3 : (((S.nums [x.h, x.r, x.s]).flag x.has).dig x.b).far = false := far_list Out.num far_num _ _ _ h1
  have h2 : (((S.num x.h).num x.r).num x.s).far = false := h3
  exact far_num _ _ (far_num _ _ (far_num _ _ h2))
theorem far_bench (S : Out) (l : List Seat) (h : (S.bench l).far = false) : S.far = false := far_list Out.seat far_seat _ _ _ h
theorem far_sight (S : Out) (x : SightD) (h : (S.sight x).far = false) : S.far = false := far_header _ _ (far_cert _ _ (far_bench _ _ h))
theorem far_proof (S : Out) (x : ProofD) (h : (S.proof x).far = false) : S.far = false := by
  have h1 : ((((S.list x.turns 288 Out.turn).flag x.leaf).text x.key 32).text x.value 4096).far = false := h
  have h2 : ((S.list x.turns 288 Out.turn).flag x.leaf).far = false := far_text _ _ _ (far_text _ _ _ h1)
  have h3 : (S.list x.turns 288 Out.turn).far = false := h2
  exact far_list Out.turn far_turn _ _ _ h3
def txBase (S : Out) (x : TxD) : Out := ((((S.nums [x.k, x.f, x.n, x.p, x.l, x.t, x.a]).text x.text 2048).list x.args 8 Out.num).list x.sights 1 Out.sight).list x.proofs 1 Out.proof
theorem txBase_far (S : Out) (x : TxD) (h : (txBase S x).far = false) : 0 ≤ x.t := by
  have h1 := far_text _ _ _ (far_list Out.num far_num _ _ _ (far_list Out.sight far_sight _ _ _ (far_list Out.proof far_proof _ _ _ h)))
  have h2 : ((((((S.num x.k).num x.f).num x.n).num x.p).num x.l).num x.t).far = false := far_num _ _ h1
  have h3 : (((((S.num x.k).num x.f).num x.n).num x.p).num x.l).far = false ∧ farN x.t = false := by
    have : ((((((S.num x.k).num x.f).num x.n).num x.p).num x.l).far || farN x.t) = false := h2
    simpa using this
  have h4 := h3.2
  simp [farN] at h4
  exact h4.1
def rtx1 (x : TxD) : Bool := !(decide (x.k < 1) || decide (10 < x.k) || decide (x.f < 1))
def rtx2 (x : TxD) : Bool := !((toF x.k && decide (x.t < 1)) || (!toF x.k && !decide (x.t = 0)))
def rtx3 (x : TxD) : Bool := !(!amountF x.k && !decide (x.a = 0))
def rtx4 (x : TxD) : Bool := !((!decide (x.k = 2) && !decide (x.k = 3)) && !emp x.text)
def rtx5 (x : TxD) : Bool := !(!decide (x.k = 3) && decide (0 < x.args.length))
def rtx6 (x : TxD) : Bool := (decide (x.k = 9) == decide (x.sights.length = 1))
def rtx7 (x : TxD) : Bool := (decide (x.k = 10) == decide (x.proofs.length = 1))
theorem rtx_ok (x : TxD) (h : 0 ≤ x.t) : (rtx1 x && rtx2 x && rtx3 x && rtx4 x && rtx5 x && rtx6 x && rtx7 x) = (txOk1 x && txOk2 x && txOk3 x) := by
  have h1 : rtx1 x = (decide (1 ≤ x.k) && decide (x.k ≤ 10) && decide (1 ≤ x.f)) := by
    unfold rtx1; rw [Bool.eq_iff_iff]; simp <;> omega
  have h2 : rtx2 x = (toF x.k == decide (1 ≤ x.t)) := by
    unfold rtx2
    cases toF x.k
    · rw [Bool.eq_iff_iff]; simp <;> omega
    · rw [Bool.eq_iff_iff]; simp <;> omega
  have h3 : rtx3 x = (amountF x.k || decide (x.a = 0)) := by unfold rtx3; cases amountF x.k <;> simp
  have h4 : rtx4 x = (textF x.k || emp x.text) := by unfold rtx4 textF; cases emp x.text <;> simp
  have h5 : rtx5 x = (argsF x.k || decide (x.args.length = 0)) := by
    unfold rtx5 argsF
    by_cases hk : x.k = 3
    · simp [hk]
    · simp [hk]; rw [Bool.eq_iff_iff]; simp [List.length_pos_iff]
  have h6 : rtx6 x = (sightF x.k == decide (x.sights.length = 1)) := rfl
  have h7 : rtx7 x = (proofF x.k == decide (x.proofs.length = 1)) := rfl
  rw [h1, h2, h3, h4, h5, h6, h7]
  unfold txOk1 txOk2 txOk3
  simp only [Bool.and_assoc]
theorem Out.tx_eq {w : World} {g : Nat} {S : Out} (x : TxD) (h : Ref w g ((((((((txBase S x).need (rtx1 x)).need (rtx2 x)).need (rtx3 x)).need (rtx4 x)).need (rtx5 x)).need (rtx6 x)).need (rtx7 x))) : Ref w g (S.tx x) := by
  rw [Out.need_need, Out.need_need, Out.need_need, Out.need_need, Out.need_need, Out.need_need] at h
  refine h.ifNear rfl (Nat.le_refl _) fun hf => ⟨rfl, ?_⟩
  have h0 := txBase_far S x hf
  have h1 := rtx_ok x h0
  have e : S.tx x = (txBase S x).need (txOk1 x && txOk2 x && txOk3 x) := by
    rw [← Out.need_need, ← Out.need_need]; rfl
  rw [e, ← h1]
  simp only [Bool.and_assoc]
end Go.Proofs.Ytjjkdmngmopjbaa
