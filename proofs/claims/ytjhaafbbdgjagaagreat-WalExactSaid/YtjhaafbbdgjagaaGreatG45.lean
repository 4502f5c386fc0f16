/- Of the texts Wal6, Wal7a, Wal8, Wal9. -/
import Derived.Test.YtjhaafbbdgjagaaGreatG44
import Derived.Test.YtjhaafbbdgjagaaGreatG16
set_option linter.unusedSimpArgs false
set_option linter.unusedVariables false
namespace Go.Proofs.YtjhaafbbdgjagaaGreat
open Go Go.RowKit Vc
set_option maxRecDepth 100000
def Pb {α : Type} (p : ByteArray → Got α) (l : List UInt8) (x : α) : Prop := ∀ r, p (bs (l ++ r)) = .ok (x, bs r)
theorem bs_extract (l : List UInt8) (i j : Nat) : (bs l).extract i j = bs ((l.take j).drop i) := by
 apply ByteArray.ext; apply Array.toList_inj.1; simp only [ByteArray.data_extract, Array.toList_extract, bs_data, List.extract_eq_take_drop]; rw [List.drop_take]
theorem pTake_bs (a r : List UInt8) {n : Int} (hn : n = a.length) : pTake n (bs (a ++ r)) = .ok (bs a, bs r) := by
 unfold pTake; rw [bs_size, List.length_append, if_neg (by omega), bs_extract, bs_extract, hn, Int.toNat_natCast, List.drop_zero, List.take_append_of_le_length (Nat.le_refl _), List.take_of_length_le (Nat.le_refl _), ← List.length_append, List.take_of_length_le (Nat.le_refl _), List.drop_append_of_le_length (Nat.le_refl _), List.drop_of_length_le (Nat.le_refl _), List.nil_append]
theorem Pb.bind {α β : Type} {p : ByteArray → Got α} {f : α → ByteArray → Got β} {l m : List UInt8} {x : α} {y : β} (h : Pb p l x) (g : Pb (f x) m y) : Pb (pBind p f) (l ++ m) y := by
 intro r; unfold pBind; rw [List.append_assoc, h (m ++ r)]; exact g r
theorem Pb.ok {α : Type} (x : α) : Pb (fun z => .ok (x, z)) [] x := fun r => rfl
theorem be_snoc' (n : Int) : ∀ k : Nat, be n (k + 1) = be (n / 256) k ++ [UInt8.ofNat (n % 256).toNat]
 | 0 => by simp [be]
 | k + 1 => by
  show UInt8.ofNat (n / 256 ^ (k + 1) % 256).toNat :: be n (k + 1) = (UInt8.ofNat (n / 256 / 256 ^ k % 256).toNat :: be (n / 256) k) ++ _; rw [be_snoc' n k, Int.ediv_ediv_of_nonneg (by decide), Int.pow_succ, Int.mul_comm (256 ^ k) 256]; rfl
theorem ofNat_mod (n : Int) (h : 0 ≤ n) : ((UInt8.ofNat (n % 256).toNat).toNat : Int) = n % 256 := by
 rw [u8_of_nat]; omega
theorem numOf_be : ∀ (k : Nat) (n : Int), 0 ≤ n → n < 256 ^ k → (numOf (be n k) : Int) = n
 | 0, n, h0, h1 => by
  have : (256 : Int) ^ 0 = 1 := rfl; show ((0 : Nat) : Int) = n; omega
 | k + 1, n, h0, h1 => by
  have e : (256 : Int) ^ (k + 1) = 256 ^ k * 256 := Int.pow_succ ..; have hp := pow256 k; have hd : n / 256 < 256 ^ k := by omega
  rw [be_snoc', numOf_snoc]; have ih := numOf_be k (n / 256) (by omega) hd; have hm := ofNat_mod n h0; omega
theorem be_head : ∀ (f : Nat) (n : Int), 0 ≤ n → n < 256 ^ f → (blenF f n = 0 → n = 0) ∧ (0 < blenF f n → ¬ ((be n (blenF f n)).getD 0 0).toNat = 0) ∧ n < 256 ^ blenF f n
 | 0, n, h0, h1 => by
  have : (256 : Int) ^ 0 = 1 := rfl; exact ⟨fun _ => by omega, fun h => absurd h (by simp [blenF]), h1⟩
 | f + 1, n, h0, h1 => by
  have e : (256 : Int) ^ (f + 1) = 256 ^ f * 256 := Int.pow_succ ..; have hp := pow256 f; obtain ⟨i1, i2, i3⟩ := be_head f (n / 256) (by omega) (by omega); unfold blenF
  by_cases hn : 0 < n
  ·rw [if_pos hn]; refine ⟨fun h => by omega, fun _ => ?_, ?_⟩
   ·rw [be_snoc']; cases hb : blenF f (n / 256) with
    | zero =>
     have := i1 hb; have hm := ofNat_mod n h0; simp only [be, List.nil_append, List.getD_cons_zero]; omega
    | succ k =>
     rw [hb] at i2; have := i2 (Nat.succ_pos _); simpa [be] using this
   ·have e2 : (256 : Int) ^ (blenF f (n / 256) + 1) = 256 ^ blenF f (n / 256) * 256 := Int.pow_succ ..; have hp2 := pow256 (blenF f (n / 256)); omega
  ·rw [if_neg hn]; have : (256 : Int) ^ 0 = 1 := rfl; exact ⟨fun _ => by omega, fun h => absurd h (by omega), by omega⟩
theorem farN_false {n : Int} (h : farN n = false) : 0 ≤ n ∧ n ≤ 1099511627775 := by
 unfold farN at h; rw [decide_eq_false_iff_not] at h; omega
theorem pb_num {n : Int} (h : farN n = false) : Pb pNum (numB (numV n)) n := by
 intro r; obtain ⟨h0, h1⟩ := farN_false h; have e5 : (256 : Int) ^ 5 = 1099511627776 := by decide
 obtain ⟨b1, b2, b3⟩ := be_head 5 n h0 (by omega); have hl := blenF_le 5 n; have hv : numV n = n := by unfold numV; rw [h]; rfl
 rw [hv]; show pUpTo _ (bs ((UInt8.ofNat (blenF 5 n) :: be n (blenF 5 n)) ++ r)) = _; unfold pUpTo; rw [show (UInt8.ofNat (blenF 5 n) :: be n (blenF 5 n)) ++ r = [UInt8.ofNat (blenF 5 n)] ++ (be n (blenF 5 n) ++ r) from rfl, pTake_bs (n := 1) [UInt8.ofNat (blenF 5 n)] _ rfl]; have hk : byteAt (bs [UInt8.ofNat (blenF 5 n)]) 0 = blenF 5 n := by
  show (UInt8.ofNat (blenF 5 n)).toNat = _; rw [UInt8.toNat_ofNat', Nat.mod_eq_of_lt (by omega)]
 dsimp only; rw [hk, if_neg (by omega), pTake_bs _ _ (by rw [be_len])]; dsimp only; have hno := numOf_be (blenF 5 n) n h0 b3; rw [bs_data, hno, if_neg, if_neg (by show ¬ (1099511627775 < n); omega)]; rintro ⟨g1, g2⟩; rw [bs_size, be_len] at g1; exact b2 g1 g2
theorem pb_dig {d : Int} (h : 0 ≤ d ∧ d < 18446744073709551616) : Pb pDig (be d 8) d := by
 intro r; unfold pDig; rw [pTake_bs _ _ (by rw [be_len]; rfl)]; have e8 : (256 : Int) ^ 8 = 18446744073709551616 := by decide
 have := numOf_be 8 d h.1 (by omega); show Except.ok (((numOf (be d 8) : Nat) : Int), bs r) = _; rw [this]
theorem pb_flag (f : Bool) : Pb pFlag [if f then 1 else 0] f := by
 intro r; unfold pFlag; rw [pTake_bs (n := 1) [if f then 1 else 0] r rfl]; cases f <;> rfl
def Fine (v : VoteD) : Prop := v.ok ∧ (recO 1 v).re = 0
def voteB (v : VoteD) : List UInt8 := numB (numV v.h) ++ (numB (numV v.r) ++ (numB (numV v.s) ++ ([if v.has then 1 else 0] ++ (be v.b 8 ++ (numB (numV v.f) ++ [])))))
theorem fine_far {v : VoteD} (h : Fine v) : farN v.h = false ∧ farN v.r = false ∧ farN v.s = false ∧ farN v.f = false ∧ (recO 1 v).rs = numB (numV 1) ++ (voteB v ++ []) := by
 have h2 := h.2; have hf : (recO 1 v).far = ((((false || farN 1) || farN v.h) || farN v.r) || farN v.s || farN v.f) := rfl; unfold Out.re at h2
 by_cases h3 : (recO 1 v).far = true
 ·rw [if_pos h3] at h2; omega
 ·rw [if_neg h3] at h2
  by_cases h4 : (recO 1 v).odd = true
  ·rw [if_pos h4] at h2; omega
  ·have hb : (recO 1 v).b = [] ++ numB (numV 1) ++ numB (numV v.h) ++ numB (numV v.r) ++ numB (numV v.s) ++ [if v.has then 1 else 0] ++ be v.b 8 ++ numB (numV v.f) := rfl; rw [hf] at h3; simp only [Bool.false_or, Bool.or_eq_true, not_or, Bool.not_eq_true] at h3; refine ⟨h3.1.1.1.2, h3.1.1.2, h3.1.2, h3.2, ?_⟩; unfold Out.rs; rw [hf, if_neg (by simp [h3.1.1.1.1, h3.1.1.1.2, h3.1.1.2, h3.1.2, h3.2]), if_neg h4, hb]; unfold voteB; simp only [List.append_assoc, List.nil_append, List.append_nil]
theorem pb_vote {v : VoteD} (h : Fine v) : Pb pVote (voteB v) v := by
 obtain ⟨h1, h2, h3, h4, _⟩ := fine_far h; exact (pb_num h1).bind ((pb_num h2).bind ((pb_num h3).bind ((pb_flag v.has).bind ((pb_dig h.1).bind ((pb_num h4).bind (Pb.ok _))))))
theorem pb_rec {v : VoteD} (h : Fine v) : Pb pRecord (recO 1 v).rs (recW 1 v) := by
 obtain ⟨h1, h2, h3, h4, h5⟩ := fine_far h; rw [h5]; unfold pRecord; refine (pb_num (n := 1) rfl).bind ?_; show Pb (pBind pVote _) _ _; exact (pb_vote h).bind (Pb.ok _)
theorem whole_rec {v : VoteD} (h : Fine v) : pWhole recordR.p (fun y => (recordK.out y).re) (bs (recO 1 v).rs) = .ok (recW 1 v) := by
 have e := pb_rec h []; rw [List.append_nil] at e; unfold pWhole; have e : recordR.p (bs (recO 1 v).rs) = _ := e; rw [e]; dsimp only; rw [if_neg (by rw [bs_size]; simp)]; exact if_pos h.2
def fr (v : VoteD) : List UInt8 := frameL (recO 1 v).rs
def flat (l : List VoteD) : List UInt8 := l.flatMap fr
def Torn (t : List UInt8) : Prop := ∃ v k, k < (fr v).length ∧ t = (fr v).take k
theorem lenL_frame (s t : List UInt8) (k : Nat) (hk : 4 ≤ k) (h : s.length < 4294967296) : lenL ((frameL s).take k ++ t) = s.length := by
 unfold lenL frameL; have e : ((be s.length 4 ++ be (ofS 8 0 [s]) 8 ++ s).take k ++ t).take 4 = be (s.length : Int) 4 := by
  rw [List.take_append_of_le_length (by simp only [List.length_take, List.length_append, be_len]; omega), List.take_take, Nat.min_eq_left hk, List.append_assoc, List.take_append_of_le_length (by rw [be_len]; omega), List.take_of_length_le (by rw [be_len]; omega)]
 rw [e]; have e4 : (256 : Int) ^ 4 = 4294967296 := by decide
 have := numOf_be 4 (s.length : Int) (by omega) (by omega); omega
theorem first_torn {t : List UInt8} (h : Torn t) : firstL t = none := by
 obtain ⟨v, k, hk, rfl⟩ := h; have hl := recO_len 1 v; unfold fr at *; rw [frameL_len] at hk; have ht : ((frameL (recO 1 v).rs).take k).length = k := by rw [List.length_take, frameL_len]; omega
 unfold firstL; rw [ht]
 by_cases h12 : k < 12
 ·rw [if_pos h12]
 ·have e := lenL_frame (recO 1 v).rs [] k (by omega) (by omega); rw [List.append_nil] at e; rw [if_neg h12, e, if_pos (by omega)]
theorem first_frame {v : VoteD} (h : Fine v) (t : List UInt8) : firstL (fr v ++ t) = some (recW 1 v, t) := by
 have hl := recO_len 1 v; have hn := frameL_len (recO 1 v).rs; have e := lenL_frame (recO 1 v).rs t (frameL (recO 1 v).rs).length (by omega) (by omega); rw [List.take_of_length_le (Nat.le_refl _)] at e; unfold firstL fr; rw [e, List.length_append, hn, if_neg (by omega), if_neg (by omega)]; have e1 : ((frameL (recO 1 v).rs ++ t).drop 12).take (recO 1 v).rs.length = (recO 1 v).rs := by
  have : frameL (recO 1 v).rs ++ t = (be ((recO 1 v).rs.length : Int) 4 ++ be (ofS 8 0 [(recO 1 v).rs]) 8) ++ ((recO 1 v).rs ++ t) := by
   unfold frameL; simp only [List.append_assoc]
  rw [this, List.drop_append_of_le_length (by simp only [List.length_append, be_len]; omega), List.drop_of_length_le (by simp only [List.length_append, be_len]; omega), List.nil_append, List.take_append_of_le_length (Nat.le_refl _), List.take_of_length_le (Nat.le_refl _)]
 have e2 : (frameL (recO 1 v).rs ++ t).take (12 + (recO 1 v).rs.length) = frameL (recO 1 v).rs := by
  rw [← hn, List.take_append_of_le_length (Nat.le_refl _), List.take_of_length_le (Nat.le_refl _)]
 have e3 : (frameL (recO 1 v).rs ++ t).drop (12 + (recO 1 v).rs.length) = t := by
  rw [← hn, List.drop_append_of_le_length (Nat.le_refl _), List.drop_of_length_le (Nat.le_refl _), List.nil_append]
 rw [e1, if_pos e2.symm, whole_rec h, e3]; rfl
theorem run_flat : ∀ (l : List VoteD) (t : List UInt8), (∀ v ∈ l, Fine v) → Torn t → run (flat l ++ t) = (l.map (recW 1), t)
 | [], t, _, ht => run_none (first_torn ht)
 | v :: l, t, h, ht => by
  have e : flat (v :: l) ++ t = fr v ++ (flat l ++ t) := by
   show (fr v ++ flat l) ++ t = _; rw [List.append_assoc]
  rw [e, run_some (first_frame (h v (List.mem_cons_self ..)) _), run_flat l t (fun x hx => h x (List.mem_cons_of_mem _ hx)) ht]; rfl
theorem torn_nil : Torn [] := ⟨⟨0, 0, 0, false, 0, 0⟩, 0, by unfold fr; rw [frameL_len]; omega, rfl⟩
theorem flat_app (a b : List VoteD) : flat (a ++ b) = flat a ++ flat b := List.flatMap_append ..
theorem take_flat : ∀ (b : List VoteD) (k : Nat), ∃ c t, c <+: b ∧ (flat b).take k = flat c ++ t ∧ Torn t
 | [], k => ⟨[], [], List.prefix_refl _, by simp [flat], torn_nil⟩
 | v :: b, k => by
  by_cases hk : k < (fr v).length
  ·refine ⟨[], (fr v).take k, List.nil_prefix, ?_, v, k, hk, rfl⟩; show (fr v ++ flat b).take k = _; rw [List.take_append_of_le_length (by omega)]; rfl
  ·obtain ⟨c, t, h1, h2, h3⟩ := take_flat b (k - (fr v).length); refine ⟨v :: c, t, List.prefix_cons_inj v |>.2 h1, ?_, h3⟩; show (fr v ++ flat b).take k = (fr v ++ flat c) ++ t; rw [List.take_append, List.take_of_length_le (by omega), h2, List.append_assoc]
namespace LogS
def Up (L : LogS) (a b : List VoteD) : Prop := L.down = false ∧ L.safe = flat a ∧ L.loose = flat b ∧ ∀ v ∈ a ++ b, Fine v
def Dn (L : LogS) (a : List VoteD) : Prop := L.down = true ∧ L.loose = [] ∧ (∃ t, Torn t ∧ L.safe = flat a ++ t) ∧ ∀ v ∈ a, Fine v
theorem fine_pre {a b c : List VoteD} (h : ∀ v ∈ a ++ b, Fine v) (hc : c <+: b) : ∀ v ∈ a ++ c, Fine v := by
 intro v hv
 rcases List.mem_append.1 hv with g | g
 ·exact h v (List.mem_append_left _ g)
 ·exact h v (List.mem_append_right _ (hc.subset g))
theorem Up.die {L : LogS} {a b : List VoteD} (h : L.Up a b) (k : Int) : ∃ c, c <+: b ∧ (L.die k).Dn (a ++ c) := by
 obtain ⟨h1, h2, h3, h4⟩ := h; obtain ⟨c, t, c1, c2, c3⟩ := take_flat b k.toNat; refine ⟨c, c1, ?_⟩; unfold LogS.die; rw [if_neg (by rw [h1]; decide)]
 refine ⟨rfl, rfl, ⟨t, c3, ?_⟩, fine_pre h4 c1⟩; show L.safe ++ L.loose.take k.toNat = _; rw [h2, h3, c2, flat_app, List.append_assoc]
theorem Up.act {L : LogS} {a b : List VoteD} (h : L.Up a b) : L.act.Up a b ∨ ∃ c, c <+: b ∧ L.act.Dn (a ++ c) := by
 unfold LogS.act; split
 ·split
  ·exact .inr (Up.die (L := { L with left := 0 }) h _)
  ·exact .inl h
 ·exact .inl h
theorem Up.append {L : LogS} {a b : List VoteD} (h : L.Up a b) {v : VoteD} (hv : Fine v) : (L.append (fr v)).Up a (b ++ [v]) ∨ ∃ c, c <+: b ++ [v] ∧ (L.append (fr v)).Dn (a ++ c) := by
 obtain ⟨h1, h2, h3, h4⟩ := h; unfold LogS.append; rw [if_neg (by rw [h1]; decide)]
 refine Up.act (L := { L with loose := L.loose ++ fr v }) ⟨h1, h2, ?_, fun x hx => ?_⟩
 ·show L.loose ++ fr v = _; rw [h3, flat_app]; show _ = flat b ++ (fr v ++ []); rw [List.append_nil]
 ·rw [← List.append_assoc] at hx
  rcases List.mem_append.1 hx with g | g
  ·exact h4 x g
  ·rw [List.mem_singleton] at g; rw [g]; exact hv
theorem Up.sync {L : LogS} {a b : List VoteD} (h : L.Up a b) : (L.sync.2 = true ∧ L.sync.1.Up (a ++ b) []) ∨ (L.sync.2 = false ∧ ∃ c, c <+: b ∧ L.sync.1.Dn (a ++ c)) := by
 unfold LogS.sync; rw [if_neg (by rw [h.1]; decide)]
 dsimp only
 rcases h.act with g | ⟨c, g1, g2⟩
 ·obtain ⟨h1, h2, h3, h4⟩ := g; rw [if_neg (by rw [h1]; decide)]
  refine .inl ⟨rfl, h1, ?_, rfl, by rw [List.append_nil]; exact h4⟩; show L.act.safe ++ L.act.loose = _; rw [h2, h3, flat_app]
 ·rw [if_pos g2.1]; exact .inr ⟨rfl, c, g1, g2⟩
theorem Dn.append {L : LogS} {a : List VoteD} (h : L.Dn a) (f : List UInt8) : L.append f = L := by unfold LogS.append; rw [if_pos h.1]
theorem Dn.sync {L : LogS} {a : List VoteD} (h : L.Dn a) : L.sync = (L, false) := by unfold LogS.sync; rw [if_pos h.1]
theorem Dn.die {L : LogS} {a : List VoteD} (h : L.Dn a) (k : Int) : L.die k = L := by unfold LogS.die; rw [if_pos h.1]
theorem run_safe {L : LogS} {a : List VoteD} {t : List UInt8} (hs : L.up.safe = flat a ++ t) (ht : Torn t) (hf : ∀ v ∈ a, Fine v) (hl : L.up.loose = []) : run L.up.safe = (a.map (recW 1), t) ∧ L.begin.Up a [] := by
 have hr := run_flat a t hf ht; rw [← hs] at hr; refine ⟨hr, rfl, ?_, hl, by rw [List.append_nil]; exact hf⟩; show L.up.safe.take (L.up.safe.length - (run L.up.safe).2.length) = _; rw [hr, hs, List.length_append, Nat.add_sub_cancel, List.take_append_of_le_length (Nat.le_refl _), List.take_of_length_le (Nat.le_refl _)]
theorem Up.begin {L : LogS} {a b : List VoteD} (h : L.Up a b) : run L.up.safe = ((a ++ b).map (recW 1), []) ∧ L.begin.Up (a ++ b) [] := by
 obtain ⟨h1, h2, h3, h4⟩ := h; have e : L.up = { L.die L.loose.length with down := false } := by unfold LogS.up; rw [if_neg (by rw [h1]; decide)]
 have e2 : L.die L.loose.length = ⟨L.safe ++ L.loose, [], 0, 0, true⟩ := by
  unfold LogS.die; rw [if_neg (by rw [h1]; decide), Int.toNat_natCast, List.take_of_length_le (Nat.le_refl _)]
 refine run_safe (t := []) ?_ torn_nil h4 (by rw [e, e2]); rw [e, e2, List.append_nil, flat_app, ← h2, ← h3]
theorem Dn.begin {L : LogS} {a : List VoteD} (h : L.Dn a) : (∃ t, run L.up.safe = (a.map (recW 1), t)) ∧ L.begin.Up a [] := by
 obtain ⟨h1, h2, ⟨t, ht, hs⟩, hf⟩ := h; have e : L.up = { L with down := false } := by unfold LogS.up; rw [if_pos h1]
 have := run_safe (L := L) (a := a) (t := t) (by rw [e]; exact hs) ht hf (by rw [e]; exact h2); exact ⟨⟨t, this.1⟩, this.2⟩
end LogS
theorem plain_votes {l : List UInt8} {a : List VoteD} (h : (run l).1 = a.map (recW 1)) (hf : ∀ v ∈ a, Fine v) : Plain l := by
 intro y hy; rw [h] at hy; obtain ⟨v, hv, rfl⟩ := List.mem_map.1 hy; exact ⟨v, (hf v hv).1, rfl⟩
structure StepD where
 k : Int
 a : Int
 b : Int
 v : VoteD
def StepD.cells (x : StepD) : List Value := [.int .i64 x.k, .int .i64 x.a, .int .i64 x.b, .int .i64 x.v.h, .int .i64 x.v.r, .int .i64 x.v.s, .bool x.v.has, .int .u64 x.v.b, .int .i64 x.v.f]
def StepD.ok (x : StepD) : Prop := Iw x.k ∧ Iw x.a ∧ Iw x.b ∧ Iw x.v.h ∧ x.v.ok
def StepsC : Ctr where
 gh := 1
 pre us w := ∃ A c, ∃ l : List StepD, us = [.p A, .n l.length, .n c, .g l] ∧ Rd w w.heap.size 9 A l.length (l.flatMap StepD.cells) ∧ ∀ x ∈ l, x.ok
 post _ os := os = [.b true]
 fact _ _ _ := True
theorem new_ok : NewOk Tryz.prog 10 112 := by
 refine ⟨_, _, rfl, rfl, fun w => ?_⟩; go_enter Tryz.func10, Tryz.ntmps10; go_wp2; go_ret; exact ⟨rfl, rfl⟩
theorem loads_part {α : Type} {n : Nat} {f : α → List Value} (hf : ∀ x, (f x).length = n) {w : World} {B : Nat} {A : Option Addr} {l : List α} (h : Rd w B n A l.length (l.flatMap f)) {k : Nat} (hk : k < l.length) {off : Nat} {part : List Value} (hl : off + part.length ≤ n) (hp : ∀ j v, part[j]? = some v → (f l[k])[off + j]? = some v) : LoadsAt w (A.map (·.add (k * n + off))) part := by
 refine loads_rd' h (by omega) fun j v hv => ?_
 have hj : j < part.length := (List.getElem?_eq_some_iff.1 hv).1; rw [Nat.add_assoc, flatMap_at n f hf l k (off + j) (by omega), List.getElem?_eq_getElem hk]; exact hp j v hv
def Held (L : LogS) (all : List VoteD) (s : Int) : Prop := (∃ a b, L.Up a b ∧ all = a ++ b ∧ s ≤ a.length) ∨ (∃ a, L.Dn a ∧ a <+: all ∧ s ≤ a.length)
theorem Held.arm {L : LogS} {all : List VoteD} {s : Int} (h : Held L all s) (n k : Int) : Held (L.arm n k) all s := h
theorem Held.die {L : LogS} {all : List VoteD} {s : Int} (h : Held L all s) (k : Int) : Held (L.die k) all s := by
 rcases h with ⟨a, b, h1, rfl, h3⟩ | ⟨a, h1, h2, h3⟩
 ·obtain ⟨c, c1, c2⟩ := h1.die k; refine .inr ⟨a ++ c, c2, (List.prefix_append_right_inj a).2 c1, ?_⟩; rw [List.length_append]; omega
 ·rw [h1.die]; exact .inr ⟨a, h1, h2, h3⟩
theorem Held.sync {L : LogS} {all : List VoteD} {s : Int} (h : Held L all s) : (L.sync.2 = true → Held L.sync.1 all all.length) ∧ (L.sync.2 = false → Held L.sync.1 all s) := by
 rcases h with ⟨a, b, h1, rfl, h3⟩ | ⟨a, h1, h2, h3⟩
 ·rcases h1.sync with ⟨g1, g2⟩ | ⟨g1, c, c1, c2⟩
  ·exact ⟨fun _ => .inl ⟨a ++ b, [], g2, by rw [List.append_nil], Int.le_refl _⟩, fun h => (by rw [g1] at h; cases h)⟩
  ·refine ⟨fun h => (by rw [g1] at h; cases h), fun _ => .inr ⟨a ++ c, c2, (List.prefix_append_right_inj a).2 c1, ?_⟩⟩; rw [List.length_append]; omega
 ·rw [h1.sync]; exact ⟨fun h => (by cases h), fun _ => .inr ⟨a, h1, h2, h3⟩⟩
theorem Held.append {L : LogS} {all : List VoteD} {s : Int} (h : Held L all s) {v : VoteD} (hv : Fine v) : (¬ L.down = true → Held (L.append (fr v)) (all ++ [v]) s) ∧ (L.down = true → Held L all s) := by
 refine ⟨fun hd => ?_, fun _ => h⟩
 rcases h with ⟨a, b, h1, rfl, h3⟩ | ⟨a, h1, h2, h3⟩
 ·rcases h1.append hv with g | ⟨c, c1, c2⟩
  ·exact .inl ⟨a, b ++ [v], g, by rw [List.append_assoc], h3⟩
  ·refine .inr ⟨a ++ c, c2, ?_, ?_⟩
   ·rw [List.append_assoc]; exact (List.prefix_append_right_inj a).2 c1
   ·rw [List.length_append]; omega
 ·exact absurd h1.1 hd
theorem Held.begin {L : LogS} {all : List VoteD} {s : Int} (h : Held L all s) : ∃ m, (run L.up.safe).1 = m.map (recW 1) ∧ m <+: all ∧ s ≤ m.length ∧ (∀ v ∈ m, Fine v) ∧ Held L.begin m m.length := by
 rcases h with ⟨a, b, h1, rfl, h3⟩ | ⟨a, h1, h2, h3⟩
 ·obtain ⟨g1, g2⟩ := h1.begin; refine ⟨a ++ b, by rw [g1], List.prefix_refl _, by rw [List.length_append]; omega, h1.2.2.2, .inl ⟨a ++ b, [], g2, by rw [List.append_nil], Int.le_refl _⟩⟩
 ·obtain ⟨⟨t, g1⟩, g2⟩ := h1.begin; exact ⟨a, by rw [g1], h2, h3, h1.2.2.2, .inl ⟨a, [], g2, by rw [List.append_nil], Int.le_refl _⟩⟩
theorem Held.new : Held LogS.new [] 0 := .inl ⟨[], [], ⟨rfl, rfl, rfl, fun _ h => nomatch h⟩, rfl, Int.le_refl _⟩
theorem begin_ok {L : LogS} (h : L.Ok) : L.begin.Ok := LogS.up_ok h
theorem begin_size (L : LogS) : L.begin.size ≤ L.size := by
 refine Nat.le_trans ?_ (LogS.up_size L); show (L.up.safe.take _).length + _ ≤ _; rw [List.length_take]; show _ ≤ L.up.safe.length + L.up.loose.length; have : L.begin.loose = L.up.loose := rfl; rw [this]; omega
def RlogU (L : LogS) (k : Int) : List U := [.s (bs (L.safe ++ L.loose)), .i L.safe.length, .i L.left, .i k, .b L.down]
def KeepOk (L : LogS) (k : Int) : Prop := Iw k ∧ (0 < L.left → L.keep = if k < 0 then 0 else k)
def RLogC {A : Type} (us : A → List U) (ok : A → Prop) (R : A → LogS → LogS → List U → Prop) (n : Nat) : Ctr where
 gh := 1
 pre u _ := ∃ a x L k, u = .p a :: us x ++ RlogU L k ++ [.g L] ∧ KeepOk L k ∧ L.Small n ∧ ok x
 post u o := ∀ a x L k, u = .p a :: us x ++ RlogU L k ++ [.g L] → ∃ M k' rs, o = rs ++ RlogU M k' ∧ KeepOk M k' ∧ R x L M rs
 fact _ _ _ := True
theorem RLogC.post_of {A : Type} {us : A → List U} {ok : A → Prop} {R : A → LogS → LogS → List U → Prop} {n : Nat} (hu : ∀ x y, us x = us y → x = y) {a : Option Addr} {x : A} {L : LogS} {k : Int} {o : List U} (M : LogS) (k' : Int) (rs : List U) (he : o = rs ++ RlogU M k') (hk : KeepOk M k') (h : R x L M rs) :
  (RLogC us ok R n).post (.p a :: us x ++ RlogU L k ++ [.g L]) o := by
 intro a' x' L' k1 e; obtain ⟨e1, e2⟩ := List.append_inj' e rfl; obtain ⟨e3, e4⟩ := List.append_inj' e1 rfl; injection e3 with _ e3
 obtain rfl := hu _ _ e3; have e2 : some (U.g L) = some (U.g L') := by injection e2 with e2; rw [e2]
 obtain rfl := g_inj e2; exact ⟨M, k', rs, he, hk, h⟩
def RArmC : Ctr := RLogC (fun x : Int × Int => [.i x.1, .i x.2]) (fun x => Iw x.1 ∧ Iw x.2) (fun x L M rs => rs = [] ∧ M = L.arm x.1 x.2) big
def RDieC : Ctr := RLogC (fun x : Int => [.i x]) (fun x => Iw x) (fun x L M rs => rs = [] ∧ M = L.die x) big
def RActC : Ctr := RLogC (fun _ : Unit => []) (fun _ => True) (fun _ L M rs => rs = [.b (!M.down)] ∧ M = L.act) big
def RSyncC : Ctr := RLogC (fun _ : Unit => []) (fun _ => True) (fun _ L M rs => rs = [.i (bif L.sync.2 then 0 else 27)] ∧ M = L.sync.1) big
def RAppC : Ctr := RLogC (fun x : Int × VoteD => recordR.us (recW x.1 x.2)) (fun x => x.2.ok) (fun x L M rs => rs = [.i (appF (recO x.1 x.2) L).1] ∧ M = (appF (recO x.1 x.2) L).2) 50000000000000
theorem die_keep (L : LogS) {k : Int} {x : Int} (h : KeepOk L k) : KeepOk (L.die x) k := by
 refine ⟨h.1, fun h0 => ?_⟩; unfold LogS.die at h0 ⊢
 split at h0 <;> rename_i hd
 ·rw [if_pos hd]; exact h.2 h0
 ·exact absurd h0 (Int.lt_irrefl 0)
theorem act_keep (L : LogS) {k : Int} (h : KeepOk L k) : KeepOk L.act k := by
 refine ⟨h.1, fun h0 => ?_⟩; unfold LogS.act at h0 ⊢
 by_cases h1 : 0 < L.left
 ·rw [if_pos h1] at h0 ⊢
  by_cases h2 : L.left - 1 = 0
  ·rw [if_pos h2] at h0 ⊢
   unfold LogS.die at h0 ⊢
   split at h0
   ·exact absurd h0 (Int.lt_irrefl 0)
   ·exact absurd h0 (Int.lt_irrefl 0)
  ·rw [if_neg h2] at h0 ⊢
   exact h.2 h1
 ·exact absurd (by rw [if_neg h1] at h0; exact h0) h1
theorem bs_cut (l : List UInt8) (n : Nat) : (bs l).extract 0 n = bs (l.take n) := by
 apply ByteArray.ext; apply Array.toList_inj.1; simp only [ByteArray.data_extract, Array.toList_extract, bs_data, List.extract_eq_take_drop, Nat.sub_zero, List.drop_zero]
theorem cut_all (l : List UInt8) : (bs l).extract 0 (bs l).size = bs l := by rw [bs_cut, bs_size, List.take_of_length_le (Nat.le_refl _)]
theorem rof_keeps : Keeps Tryz.prog 139 OfC := by
 intro fn' pin' pout' h1 h2 h3 us w _ hp; rw [Tryz.func139] at h1; injection h1 with h1; subst h1
 obtain rfl : [Sh.one (.int .i64), .one (.int .i64), .one .slc] = pin' := Option.some.inj h2; obtain rfl : [Sh.one (.int .u64)] = pout' := Option.some.inj h3; obtain ⟨A, c, s, rfl, hr, hl⟩ := hp; refine (rof_any 8 0 [s] A c w.heap.size w hr (Nat.le_refl _) (show 1 ≤ maxLen by decide) (fun p hp => ?_)).mono ?_
 ·rw [List.mem_singleton] at hp; rw [hp]; exact hl
 rintro e w' ⟨rfl, hb⟩; exact ⟨[.i _], rfl, rfl, fun s' h => by obtain rfl := g_inj h; rfl, fun _ _ _ => trivial, hb⟩
theorem reight_keeps : Keeps Tryz.prog 140 EightC := by
 intro fn' pin' pout' h1 h2 h3 us w _ hp; rw [Tryz.func140] at h1; injection h1 with h1; subst h1
 obtain rfl : [Sh.one (.int .u64)] = pin' := Option.some.inj h2; obtain rfl : [Sh.one .str] = pout' := Option.some.inj h3; obtain ⟨n, rfl, h0, h1⟩ := hp; refine (reight_any n w h0 h1).mono ?_; rintro e w' ⟨rfl, hb⟩; exact ⟨[.s _], rfl, rfl, fun n' h => by injection h with h; injection h with h; subst h; rfl, fun _ _ _ => trivial, hb⟩
def RFrameC : Ctr where
 gh := 0
 pre us _ := ∃ s : ByteArray, us = [.s s] ∧ s.size ≤ 10000000000000
 post us os := ∀ s : ByteArray, us = [.s s] → os = [.s (bs (frameL s.data.toList))]
 fact _ _ _ := True
theorem be4T (n : Nat) : [Value.int .u8 (IntKind.wrap .u8 (Int.tdiv (n : Int) 16777216))] ++ ([Value.int .u8 (IntKind.wrap .u8 (Int.tdiv (n : Int) 65536))] ++ ([Value.int .u8 (IntKind.wrap .u8 (Int.tdiv (n : Int) 256))] ++ [Value.int .u8 (IntKind.wrap .u8 (n : Int))])) = bV (be n 4) := by
 have s : ∀ j : Nat, j ≤ 64 → shrI .i64 (n : Int) j = (n : Int) / 2 ^ j := by
  intro j hj; unfold shrI; rw [Int.toNat_natCast, show min j (IntKind.bits .i64) = j from Nat.min_eq_left hj, Int.fdiv_eq_ediv_of_nonneg _ (Int.le_of_lt (Int.pow_pos (by decide)))]
 rw [← be4V]; have s3 := s 24 (by decide); have s2 := s 16 (by decide); have s1 := s 8 (by decide); rw [show ((24 : Nat) : Int) = 24 from rfl] at s3; rw [show ((16 : Nat) : Int) = 16 from rfl] at s2; rw [show ((8 : Nat) : Int) = 8 from rfl] at s1; rw [s3, s2, s1, Int.tdiv_eq_ediv_of_nonneg (by omega), Int.tdiv_eq_ediv_of_nonneg (by omega), Int.tdiv_eq_ediv_of_nonneg (by omega)]; rfl
def cfg_rarm : Cfg := { own := 1, mine := [(0, 38)] }
def vcd_rarm : { v : VC // vcOf Tryz.prog cfg_rarm 14 = v } := by refine ⟨?v, ?h⟩; rotate_left; conv => lhs; reduce
theorem vce_rarm : vcOf Tryz.prog cfg_rarm 14 = vcd_rarm.1 := vcd_rarm.2
theorem rarm_keeps : KeepsL Tryz.prog 14 RArmC [(0, 38)] := by
 refine keepsL_v Tryz.func14 cfg_rarm vce_rarm [.p, .i, .i, .s, .i, .i, .i, .b, .g] RArmC [] trivial (by kernel_rfl) (fun _ _ _ h => h) ?_; intro x0 x1 x2 x3 x4 x5 x6 x7 α g w hp; refine ⟨[], vc_use ?Q ?h ?g⟩
 case h => intro O C s I b; conv => lhs; reduce
 dsimp only [std]
 try simp only [List.lookup, Nat.reduceBEq, Option.getD_some, Int.reduceOfNat, Int.reduceNegSucc]
 obtain ⟨a, ⟨n, k0⟩, L, k, he, hk, ⟨hok, hs⟩, hx⟩ := hp; have he := he.symm; simp only [RlogU, List.reverse_cons, List.reverse_nil, List.cons_append, List.nil_append, List.cons.injEq, U.p.injEq, U.i.injEq, U.s.injEq, U.l.injEq, U.n.injEq, U.b.injEq, and_true] at he; obtain ⟨rfl, rfl, rfl, rfl, rfl, rfl, rfl, rfl, hg⟩ := he; cases hg; unfold LogS.size at hs; have hK : KeepOk (L.arm n k0) k0 := ⟨hx.2, fun _ => rfl⟩
 refine ⟨fun h => ⟨?_, fun _ _ => trivial⟩, fun h => ⟨?_, fun _ _ => trivial⟩⟩
 ·refine RLogC.post_of (us := fun x : Int × Int => [.i x.1, .i x.2]) (x := (n, k0)) ii_inj (L.arm n k0) k0 [] ?_ hK ⟨rfl, rfl⟩; simp only [RlogU, LogS.arm, if_pos h, List.nil_append]
 ·refine RLogC.post_of (us := fun x : Int × Int => [.i x.1, .i x.2]) (x := (n, k0)) ii_inj (L.arm n k0) k0 [] ?_ hK ⟨rfl, rfl⟩; simp only [RlogU, LogS.arm, if_neg h, List.nil_append]
def cfg_rdie : Cfg := { own := 1, wraps := [17], mine := [(0, 38)] }
def vcd_rdie : { v : VC // vcOf Tryz.prog cfg_rdie 16 = v } := by refine ⟨?v, ?h⟩; rotate_left; conv => lhs; reduce
theorem vce_rdie : vcOf Tryz.prog cfg_rdie 16 = vcd_rdie.1 := vcd_rdie.2
theorem rdie_keeps : KeepsL Tryz.prog 16 RDieC [(0, 38)] := by
 refine keepsL_v Tryz.func16 cfg_rdie vce_rdie [.p, .i, .s, .i, .i, .i, .b, .g] RDieC [] trivial (by kernel_rfl) (fun _ _ _ h => h) ?_; intro x0 x1 x2 x3 x4 x5 x6 α g w hp; refine ⟨[], vc_use ?Q ?h ?g⟩
 case h => intro O C s I b; conv => lhs; reduce
 dsimp only [std]
 try simp only [List.lookup, Nat.reduceBEq, Option.getD_some, Int.reduceOfNat, Int.reduceNegSucc]
 obtain ⟨a, x, L, k, he, hk, ⟨hok, hs⟩, hx⟩ := hp; have he := he.symm; simp only [RlogU, List.reverse_cons, List.reverse_nil, List.cons_append, List.nil_append, List.cons.injEq, U.p.injEq, U.i.injEq, U.s.injEq, U.l.injEq, U.n.injEq, U.b.injEq, and_true] at he; obtain ⟨rfl, rfl, rfl, rfl, rfl, rfl, rfl, hg⟩ := he; cases hg; unfold LogS.size at hs; have hK := die_keep L (x := x) hk; have hb : L.safe.length + L.loose.length ≤ 100000000000000 := hs; have hz : (bs (L.safe ++ L.loose)).size = L.safe.length + L.loose.length := by rw [bs_size, List.length_append]
 obtain ⟨x1, x2⟩ : Iw x := hx; have hP : ∀ o : List U, o = RlogU (L.die x) k → RDieC.post (.p a :: [.i x] ++ RlogU L k ++ [.g L]) o := fun o ho => RLogC.post_of (us := fun x : Int => [.i x]) (x := x) i_inj (L.die x) k [] ho hK ⟨rfl, rfl⟩
 have hW : IntKind.i64.wrap (L.safe.length + x) = L.safe.length + x ∨ IntKind.i64.wrap (L.safe.length + x) < L.safe.length ∧ L.loose.length < x := by
  rw [IntKind.wrap_i64]; omega
 refine ⟨fun hd => ⟨hP _ ?_, fun _ _ => trivial⟩, fun hd => ?_⟩
 ·unfold LogS.die; rw [if_pos hd]; rfl
 have hD : L.die x = ⟨L.safe ++ L.loose.take x.toNat, [], 0, 0, true⟩ := by unfold LogS.die; rw [if_neg hd]
 have all : ∀ _ : (L.loose.length : Int) ≤ x, ([.s ((bs (L.safe ++ L.loose)).extract 0 (bs (L.safe ++ L.loose)).size), .i ((bs (L.safe ++ L.loose)).size : Nat), .i 0, .i k, .b true] : List U) = RlogU (L.die x) k := by
  intro hle; rw [cut_all, hz, hD, List.take_of_length_le (by omega)]; simp only [RlogU, List.append_nil, List.length_append]
 have part : ∀ n : Int, n = L.safe.length + (x.toNat : Int) → x ≤ L.loose.length → ([.s ((bs (L.safe ++ L.loose)).extract 0 n.toNat), .i n, .i 0, .i k, .b true] : List U) = RlogU (L.die x) k := by
  intro n hn hle; have h1 : (L.safe ++ L.loose).take n.toNat = L.safe ++ L.loose.take x.toNat := by
   rw [List.take_append, List.take_of_length_le (by omega), show n.toNat - L.safe.length = x.toNat by omega]
  have h2 : ((L.safe ++ L.loose.take x.toNat).length : Int) = n := by
   rw [List.length_append, List.length_take]; omega
  rw [bs_cut, h1, hD]; simp only [RlogU, List.append_nil, h2]
 refine ⟨fun h0 => ⟨fun h1 => ⟨by omega, by omega, hP _ (all (by rcases hW with e | e <;> omega)), fun _ _ => trivial⟩, fun h1 => ⟨fun h2 => ⟨by omega, by omega, hP _ (all (by rcases hW with e | e <;> omega)), fun _ _ => trivial⟩, fun h2 => ?_⟩⟩, fun h0 => ⟨fun h1 => absurd h1 (by omega), fun h1 => ⟨fun h2 => absurd h2 (by omega), fun h2 => ⟨by omega, by omega, hP _ ?_, fun _ _ => trivial⟩⟩⟩⟩
 ·rcases hW with e | e
  ·rw [e] at h1 h2 ⊢
   exact ⟨by omega, by omega, hP _ (part _ (by omega) (by omega)), fun _ _ => trivial⟩
  ·exact absurd e.1 h2
 ·exact part L.safe.length (by omega) (by omega)
def cfg_ract : Cfg := { con := [(16, 1)], own := 1, lents := [(16, [(0, 38)])], mine := [(0, 38)] }
def vcd_ract : { v : VC // vcOf Tryz.prog cfg_ract 60 = v } := by refine ⟨?v, ?h⟩; rotate_left; conv => lhs; reduce
theorem vce_ract : vcOf Tryz.prog cfg_ract 60 = vcd_ract.1 := vcd_ract.2
theorem ract_keeps : KeepsL Tryz.prog 60 RActC [(0, 38)] := by
 refine keepsL_v Tryz.func60 cfg_ract vce_ract [.p, .s, .i, .i, .i, .b, .g] RActC [(16, RDieC)] ⟨rdie_keeps, trivial⟩ (by kernel_rfl) (fun _ _ _ h => h) ?_; intro x0 x1 x2 x3 x4 x5 α g w hp; refine ⟨[], vc_use ?Q ?h ?g⟩
 case h => intro O C s I b; conv => lhs; reduce
 dsimp only [std]
 try simp only [ctrOf, invOf, List.lookup, Nat.reduceBEq, Option.getD_some, Int.reduceOfNat, Int.reduceNegSucc]
 obtain ⟨a, ⟨⟩, L, k, he, hk, ⟨hok, hs⟩, hx⟩ := hp; have he := he.symm; simp only [RlogU, List.reverse_cons, List.reverse_nil, List.cons_append, List.nil_append, List.cons.injEq, U.p.injEq, U.i.injEq, U.s.injEq, U.l.injEq, U.n.injEq, U.b.injEq, and_true] at he; obtain ⟨rfl, rfl, rfl, rfl, rfl, rfl, hg⟩ := he; cases hg; unfold LogS.size at hs; have hK := act_keep L hk; have hP : ∀ (k' : Int) (o : List U), KeepOk L.act k' → o = [.b (!L.act.down)] ++ RlogU L.act k' → RActC.post (.p a :: [] ++ RlogU L k ++ [.g L]) o := fun k' o hK ho => RLogC.post_of (us := fun _ : Unit => []) (x := ()) u_inj L.act k' [.b (!L.act.down)] ho hK ⟨rfl, rfl⟩
 obtain ⟨hl0, hl1⟩ := hok.2.1; refine ⟨fun h1 => ?_, fun h1 => ⟨fun h2 => ⟨⟨by omega, by omega⟩, hP k _ hK ?_, fun _ _ => trivial⟩, fun h2 => ⟨hP k _ hK ?_, fun _ _ => trivial⟩⟩⟩
 ·intro a1; refine ⟨LogS, L, fun w _ => ⟨a1, k, L, k, rfl, hk, ⟨hok, hs⟩, hk.1⟩, ?_⟩; intro y1 y2 y3 y4 y5 h; obtain ⟨M, k', rs, e1, hk', rfl, rfl⟩ := h a1 k L k rfl; have e1 := e1.symm; simp only [RlogU, List.reverse_cons, List.reverse_nil, List.cons_append, List.nil_append, List.cons.injEq, U.p.injEq, U.i.injEq, U.s.injEq, U.l.injEq, U.n.injEq, U.b.injEq, and_true] at e1; obtain ⟨rfl, rfl, rfl, rfl, rfl⟩ := e1
  by_cases hd : L.down = true
  ·have e0 : L.die k = L := by unfold LogS.die; rw [if_pos hd]
   have e : L.act = { L with left := 0 } := by
    unfold LogS.act; rw [if_pos (by omega), if_pos (by omega)]; unfold LogS.die; rw [if_pos hd]
   rw [e0]; refine ⟨fun _ => ⟨⟨by omega, by omega⟩, hP k' _ ⟨hk'.1, ?_⟩ ?_, fun _ _ => trivial⟩, fun h => absurd h (by omega)⟩
   ·rw [e]; exact fun h => absurd h (Int.lt_irrefl 0)
   ·rw [e, h1]; rfl
  ·have hkk : L.keep.toNat = k.toNat := by
    rw [hk.2 (by omega)]; split <;> omega
   have e0 : L.die k = ⟨L.safe ++ L.loose.take k.toNat, [], 0, 0, true⟩ := by unfold LogS.die; rw [if_neg hd]
   have e : L.act = ⟨L.safe ++ L.loose.take k.toNat, [], 0, 0, true⟩ := by
    unfold LogS.act; rw [if_pos (by omega), if_pos (by omega)]; unfold LogS.die; rw [if_neg hd, hkk]
   rw [e0]; refine ⟨fun h => absurd h (Int.lt_irrefl 0), fun _ => ⟨hP k' _ ⟨hk'.1, ?_⟩ ?_, fun _ _ => trivial⟩⟩
   ·rw [e]; exact fun h => absurd h (Int.lt_irrefl 0)
   ·rw [e]; rfl
 ·have e : L.act = { L with left := L.left - 1 } := by unfold LogS.act; rw [if_pos h2, if_neg (by omega)]
  rw [e]; rfl
 ·have e : L.act = L := by unfold LogS.act; rw [if_neg h2]
  rw [e]; rfl
def cfg_rsync : Cfg := { con := [(60, 1)], own := 1, lents := [(60, [(0, 38)])], mine := [(0, 38)] }
def vcd_rsync : { v : VC // vcOf Tryz.prog cfg_rsync 12 = v } := by refine ⟨?v, ?h⟩; rotate_left; conv => lhs; reduce
theorem vce_rsync : vcOf Tryz.prog cfg_rsync 12 = vcd_rsync.1 := vcd_rsync.2
theorem rsync_keeps : KeepsL Tryz.prog 12 RSyncC [(0, 38)] := by
 refine keepsL_v Tryz.func12 cfg_rsync vce_rsync [.p, .s, .i, .i, .i, .b, .g] RSyncC [(60, RActC)] ⟨ract_keeps, trivial⟩ (by kernel_rfl) (fun _ _ _ h => h) ?_; intro x0 x1 x2 x3 x4 x5 α g w hp; refine ⟨[], vc_use ?Q ?h ?g⟩
 case h => intro O C s I b; conv => lhs; reduce
 dsimp only [std]
 try simp only [ctrOf, invOf, List.lookup, Nat.reduceBEq, Option.getD_some, Int.reduceOfNat, Int.reduceNegSucc]
 obtain ⟨a, ⟨⟩, L, k, he, hk, ⟨hok, hs⟩, hx⟩ := hp; have he := he.symm; simp only [RlogU, List.reverse_cons, List.reverse_nil, List.cons_append, List.nil_append, List.cons.injEq, U.p.injEq, U.i.injEq, U.s.injEq, U.l.injEq, U.n.injEq, U.b.injEq, and_true] at he; obtain ⟨rfl, rfl, rfl, rfl, rfl, rfl, hg⟩ := he; cases hg; unfold LogS.size at hs; have hP : ∀ (M : LogS) (k' : Int) (o : List U), M = L.sync.1 → KeepOk M k' → o = [.i (bif L.sync.2 then 0 else 27)] ++ RlogU M k' → RSyncC.post (.p a :: [] ++ RlogU L k ++ [.g L]) o := fun M k' o hM hK ho => RLogC.post_of (us := fun _ : Unit => []) (x := ()) u_inj M k' [.i (bif L.sync.2 then 0 else 27)] ho hK ⟨rfl, hM⟩
 refine ⟨fun hd => ⟨hP L k _ ?_ hk ?_, fun _ _ => trivial⟩, fun hd => ?_⟩
 ·unfold LogS.sync; rw [if_pos hd]
 ·unfold LogS.sync; rw [if_pos hd]; rfl
 ·intro a1; refine ⟨LogS, L, fun w _ => ⟨a1, (), L, k, rfl, hk, ⟨hok, hs⟩, trivial⟩, ?_⟩; intro y1 y2 y3 y4 y5 y6 h; obtain ⟨M, k', rs, e1, hk', rfl, rfl⟩ := h a1 () L k rfl; have e1 := e1.symm; simp only [RlogU, List.reverse_cons, List.reverse_nil, List.cons_append, List.nil_append, List.cons.injEq, U.p.injEq, U.i.injEq, U.s.injEq, U.l.injEq, U.n.injEq, U.b.injEq, and_true] at e1; obtain ⟨rfl, rfl, rfl, rfl, rfl, rfl⟩ := e1; have hs0 : L.sync = if L.act.down then (L.act, false) else ({ L.act with safe := L.act.safe ++ L.act.loose, loose := [] }, true) := by
   unfold LogS.sync; rw [if_neg hd]
  refine ⟨fun h1 => ⟨hP L.act k' _ ?_ hk' ?_, fun _ _ => trivial⟩, fun h1 => ⟨hP { L.act with safe := L.act.safe ++ L.act.loose, loose := [] } k' _ ?_ hk' ?_, fun _ _ => trivial⟩⟩
  ·have h1 : L.act.down = true := by simpa using h1
   rw [hs0, if_pos h1]
  ·have h1 : L.act.down = true := by simpa using h1
   rw [hs0, if_pos h1]; rfl
  ·have h1 : ¬ L.act.down = true := by simpa using h1
   rw [hs0, if_neg h1]
  ·have h1 : ¬ L.act.down = true := by simpa using h1
   rw [hs0, if_neg h1]; simp only [RlogU, List.append_nil, bs_size]; rfl
def cfg_rframe : Cfg := { con := [(139, 1), (140, 0)] }
def vcd_rframe : { v : VC // vcOf Tryz.prog cfg_rframe 62 = v } := by refine ⟨?v, ?h⟩; rotate_left; conv => lhs; reduce
theorem vce_rframe : vcOf Tryz.prog cfg_rframe 62 = vcd_rframe.1 := vcd_rframe.2
theorem rframe_keeps : Keeps Tryz.prog 62 RFrameC := by
 refine keeps_v Tryz.func62 cfg_rframe vce_rframe [.s] RFrameC [(139, OfC), (140, EightC)] ⟨rof_keeps, reight_keeps, trivial⟩ (by kernel_rfl) (fun _ _ _ h _ => h) ?_; intro s w hp; refine ⟨[], vc_use ?Q ?h ?g⟩
 case h => intro O C s I b; conv => lhs; reduce
 dsimp only [std]; simp only [ctrOf, invOf, List.lookup, Nat.reduceBEq, Option.getD_some, Int.reduceOfNat, Int.reduceNegSucc]; obtain ⟨s', he, hs⟩ := hp; injection he with he; injection he with he; subst he
 obtain ⟨l, rfl⟩ := bs_ex s; rw [bs_size] at hs; intro x1 x2; refine ⟨List UInt8, l, fun w hw => ⟨x1, x2, l, rfl, Rd.of_own hw.2, by unfold maxLen; omega⟩, ?_⟩; intro x4 h4; have h4 := h4 l rfl; injection h4 with h4; injection h4 with h4; subst h4
 refine ⟨fun w hw => ⟨_, rfl, ofS8_bd _⟩, ?_⟩; intro x5 h5; have h5 := h5 _ rfl; injection h5 with h5; injection h5 with h5; subst h5
 have t : ∀ j : Int, 1 ≤ j → 0 ≤ Int.tdiv (l.length : Int) j ∧ Int.tdiv (l.length : Int) j ≤ l.length := fun j hj => by
  rw [Int.tdiv_eq_ediv_of_nonneg (by omega)]; exact ⟨Int.ediv_nonneg (by omega) (by omega), Int.ediv_le_self _ (by omega)⟩
 have t1 := t 16777216 (by decide); have t2 := t 65536 (by decide); have t3 := t 256 (by decide); rw [bs_size]; refine ⟨⟨by omega, by omega⟩, ⟨by omega, by omega⟩, ⟨by omega, by omega⟩, bs (be l.length 4), be4T l.length, ?_, ?_, fun s' he => ?_, fun _ _ => trivial⟩
 ·rw [bs_size, bs_size, be_len, be_len]; decide
 ·rw [bs_add, bs_size, List.length_append, be_len, be_len]; omega
 ·injection he with he; injection he with he; subst he
  rw [bs_add, bs_add, bs_data]; rfl
def RBeginC : Ctr := { RLogC (fun _ : Unit => []) (fun _ => True) (fun _ L M rs => ∃ A cap, rs = [.p A, .n (run L.up.safe).1.length, .n cap] ∧ M = L.begin) 0 with
 pre := fun u _ => ∃ a L k, u = .p a :: RlogU L k ++ [.g L] ∧ KeepOk L k ∧ L.Small 1000000000000 ∧ Plain L.up.safe
 fact := fun u o w => ∀ a L k, u = .p a :: RlogU L k ++ [.g L] → ∃ A cap rest, o = .p A :: .n (run L.up.safe).1.length :: .n cap :: rest ∧ Rd w w.heap.size 38 A (run L.up.safe).1.length ((run L.up.safe).1.flatMap recordR.cells) }
def rloopInv (S : List UInt8) : Inv where
 inv us := match us with
  | [.n m, .l xs, .i at_] => ∃ ds : List RecordD, m = ds.length ∧ xs = ds.flatMap recordR.cells ∧ 0 ≤ at_ ∧ at_ ≤ S.length ∧ run S = (ds.map recordR.strip ++ (run (S.drop at_.toNat)).1, (run (S.drop at_.toNat)).2) ∧ (12 * ds.length : Int) ≤ at_ ∧ ∀ x ∈ ds, x.k = 1 → x.motion = motionZ ∧ x.known = knownZ
  | _ => False
 fact _ _ := True
 mea us := match us with
  | [.n _, .l _, .i at_] => (S.length - at_).toNat
  | _ => 0
def numInv (S : List UInt8) : Inv where
 inv us := match us with
  | [.i n, .i i, .i at_] => 0 ≤ i ∧ i ≤ 4 ∧ 0 ≤ at_ ∧ at_ + 12 ≤ S.length ∧ n = numOf ((S.drop at_.toNat).take i.toNat)
  | _ => False
 fact _ _ := True
 mea us := match us with
  | [.i _, .i i, .i _] => (4 - i).toNat
  | _ => 0
def RGetRW : Ctr := Ctr.wit (GetC recordK (fun y => (recordK.out y).re) recordZ0)
theorem rgetrw_keeps : Keeps Tryz.prog 63 RGetRW := keeps_wit rgetrecord_ok fun _ _ _ h _ => h
theorem first_short {l : List UInt8} (h : l.length < 12 ∨ l.length - 12 < lenL l) : firstL l = none := by
 unfold firstL
 rcases h with h | h
 ·rw [if_pos h]
 ·by_cases h1 : l.length < 12
  ·rw [if_pos h1]
  ·rw [if_neg h1, if_pos h]
theorem first_not {l : List UInt8} (h : ¬ frameL ((l.drop 12).take (lenL l)) = l.take (12 + lenL l)) : firstL l = none := by
 unfold firstL
 by_cases h1 : l.length < 12
 ·rw [if_pos h1]
 ·rw [if_neg h1]
  by_cases h2 : l.length - 12 < lenL l
  ·rw [if_pos h2]
  ·rw [if_neg h2, if_neg h]
theorem first_err {l : List UInt8} (h : ¬ errOf (pWhole recordR.p (fun y => (recordK.out y).re) (bs ((l.drop 12).take (lenL l)))) = 0) : firstL l = none := by
 unfold firstL
 by_cases h1 : l.length < 12
 ·rw [if_pos h1]
 ·rw [if_neg h1]
  by_cases h2 : l.length - 12 < lenL l
  ·rw [if_pos h2]
  ·rw [if_neg h2, if_neg h]; split <;> rfl
theorem first_ok {l : List UInt8} (h1 : ¬ l.length < 12) (h2 : ¬ l.length - 12 < lenL l) (h3 : frameL ((l.drop 12).take (lenL l)) = l.take (12 + lenL l)) (h4 : errOf (pWhole recordR.p (fun y => (recordK.out y).re) (bs ((l.drop 12).take (lenL l)))) = 0) : firstL l = some (gotOf recordZ0 (pWhole recordR.p (fun y => (recordK.out y).re) (bs ((l.drop 12).take (lenL l)))), l.drop (12 + lenL l)) := by
 unfold firstL; rw [if_neg h1, if_neg h2, if_pos h3, if_pos h4]
def SameC : Ctr where
 gh := 1
 pre us w := ∃ A c A' c', ∃ l : List RecordD, us = [.p A, .n l.length, .n c, .p A', .n l.length, .n c', .g l] ∧ Rd w w.heap.size 38 A l.length (l.flatMap recordR.cells) ∧ Rd w w.heap.size 38 A' l.length (l.flatMap recordR.cells) ∧ (∀ x ∈ l, IsVote x) ∧ l.length ≤ 1000000000000
 post _ os := os = [.b true]
 fact _ _ _ := True
def cntInv : Inv where
 inv us := match us with
  | [.i i] => 0 ≤ i ∧ i ≤ 1000000000000
  | _ => False
 fact _ _ := True
 mea us := match us with
  | [.i i] => (1000000000000 - i).toNat
  | _ => 0
theorem cells38r (x : RecordD) : (recordR.cells x).length = 38 := rfl
theorem loads_rec {w : World} {B : Nat} {A : Option Addr} {l : List RecordD} (r : Rd w B 38 A l.length (l.flatMap recordR.cells)) {k : Nat} (hk : k < l.length) : LoadsAt w (A.map (·.add (k * 38))) (recordR.cells l[k]) := by
 have hn : 0 < l.length := by omega
 have := loads_rd' r hn (off := k * 38) (part := recordR.cells l[k]) (fun j v hv => by
  have hj : j < 38 := (List.getElem?_eq_some_iff.1 hv).1; rw [flatMap_at 38 recordR.cells cells38r l k j hj, List.getElem?_eq_getElem hk]; exact hv)
 exact this
theorem vote_put {x : RecordD} (h : IsVote x) (w : World) : (PutC recordK).pre (recordR.us x ++ [.g (some x)]) w := by
 obtain ⟨v, hv, rfl⟩ := h; exact ⟨recW 1 v, some (recW 1 v), rfl, recW_held 1 hv w, recW_lim 1 v, fun y h => Option.some.inj h⟩
theorem put_post {x : RecordD} {us : List U} {s : ByteArray} {e : Int} (h : (PutC recordK).post us [.s s, .i e]) (hg : us.getLast? = some (.g (some x))) : s = bs (recordK.out x).rs ∧ e = (recordK.out x).re := by
 obtain ⟨o, s', e', g1, g2, g3⟩ := h; rw [hg] at g1; obtain rfl := g_inj g1; simp only [List.cons.injEq, U.s.injEq, U.i.injEq, and_true] at g2; obtain ⟨rfl, rfl⟩ := g2; exact g3 _ rfl
def cfg_rappend : Cfg := { con := [(64, 1), (62, 0), (60, 1)], own := 1, lents := [(60, [(0, 38)])], mine := [(0, 38)] }
def vcd_rappend : { v : VC // vcOf Tryz.prog cfg_rappend 21 = v } := by refine ⟨?v, ?h⟩; rotate_left; conv => lhs; reduce
theorem vce_rappend : vcOf Tryz.prog cfg_rappend 21 = vcd_rappend.1 := vcd_rappend.2
set_option maxHeartbeats 2000000 in
theorem rappend_keeps : KeepsL Tryz.prog 21 RAppC [(0, 38)] := by
 refine keepsL_v Tryz.func21 cfg_rappend vce_rappend [.p, .i, .i, .i, .i, .b, .i, .i, .i, .i, .i, .i, .i, .i, .i, .i, .i, .i, .i, .p, .n, .n, .p, .n, .n, .p, .n, .n, .i, .i, .i, .b, .i, .p, .n, .n, .i, .i, .i, .i, .i, .i, .i, .i, .i, .p, .n, .n, .p, .n, .n, .s, .i, .i, .i, .b, .g] RAppC [(64, PutC recordK), (62, RFrameC), (60, RActC)] ⟨krputrecord_ok, rframe_keeps, ract_keeps, trivial⟩ (by kernel_rfl) (fun _ _ _ h => h) ?_; intro x0 x1 x2 x3 x4 x5 x6 x7 x8 x9 x10 x11 x12 x13 x14 x15 x16 x17 x18 x19 x20 x21 x22 x23 x24 x25 x26 x27 x28 x29 x30 x31 x32 x33 x34 x35 x36 x37 x38 x39 x40 x41 x42 x43 x44 x45 x46 x47 x48 x49 x50 x51 x52 x53 x54 x55 α g w hp; refine ⟨[], vc_use ?Q ?h ?g⟩
 case h => intro O C s I b; conv => lhs; reduce
 dsimp only [std]; simp only [ctrOf, invOf, List.lookup, Nat.reduceBEq, Option.getD_some, Int.reduceOfNat, Int.reduceNegSucc]; obtain ⟨a, ⟨k, v⟩, L, kk, he, hk, ⟨hok, hs⟩, hv⟩ := hp; have he := he.symm; simp only [recordR, recW, motionZ, knownZ, blockZ, headerZ, certZ, List.length_nil, RlogU, List.reverse_cons, List.reverse_nil, List.cons_append, List.nil_append, List.cons.injEq, U.p.injEq, U.i.injEq, U.s.injEq, U.l.injEq, U.n.injEq, U.b.injEq, and_true] at he; obtain ⟨rfl, rfl, rfl, rfl, rfl, rfl, rfl, rfl, rfl, rfl, rfl, rfl, rfl, rfl, rfl, rfl, rfl, rfl, rfl, rfl, rfl, rfl, rfl, rfl, rfl, rfl, rfl, rfl, rfl, rfl, rfl, rfl, rfl, rfl, rfl, rfl, rfl, rfl, rfl, rfl, rfl, rfl, rfl, rfl, rfl, rfl, rfl, rfl, rfl, rfl, rfl, rfl, rfl, rfl, rfl, rfl, hg⟩ := he; cases hg; unfold LogS.size at hs; have hP : ∀ M k' e, KeepOk M k' → (e, M) = appF (recO k v) L → RAppC.post (.p a :: recordR.us (recW k v) ++ RlogU L kk ++ [.g L]) (.i e :: RlogU M k') := fun M k' e hK he =>
  RLogC.post_of (us := fun x : Int × VoteD => recordR.us (recW x.1 x.2)) (x := (k, v)) rec_inj M k' [.i e] rfl hK ⟨by rw [← he], by rw [← he]⟩
 have hlen := recO_len k v; refine ⟨Option RecordD, some (recW k v), fun w _ => ⟨recW k v, some (recW k v), rfl, recW_held k hv w, recW_lim k v, fun y h => Option.some.inj h⟩, ?_⟩; intro x63 x64 h; obtain ⟨rfl, rfl⟩ := put_post (x := recW k v) h rfl; clear h; have hO : recordK.out (recW k v) = recO k v := rfl; simp only [hO]; generalize recO k v = O at *; have hl2 : (frameL O.rs).length ≤ 212 := by rw [frameL_len]; omega
 refine ⟨fun h1 => ⟨hP L kk _ hk ?_, fun _ _ => trivial⟩, fun h1 => ⟨fun h2 => ⟨hP L kk _ hk ?_, fun _ _ => trivial⟩, fun h2 => ⟨fun w _ => ⟨_, rfl, ?_⟩, ?_⟩⟩⟩
 ·unfold appF; rw [if_pos h1]
 ·unfold appF; rw [if_neg (fun h => h h1), if_pos h2]
 ·rw [bs_size]; omega
 intro x60 h; have h := h _ rfl; simp only [bs_data, List.cons.injEq, U.s.injEq, and_true] at h; subst h; refine ⟨by rw [bs_size, bs_size, List.length_append]; omega, ?_⟩; intro a1; have hL : ([.p a1, .s (bs (L.safe ++ L.loose) ++ bs (frameL O.rs)), .i L.safe.length, .i L.left, .i kk, .b L.down, .g { L with loose := L.loose ++ frameL O.rs }] : List U) = .p a1 :: [] ++ RlogU { L with loose := L.loose ++ frameL O.rs } kk ++ [.g { L with loose := L.loose ++ frameL O.rs }] := by
  rw [bs_add, List.append_assoc]; rfl
 refine ⟨LogS, { L with loose := L.loose ++ frameL O.rs }, ?_⟩; rw [hL]; refine ⟨fun w _ => ⟨a1, (), { L with loose := L.loose ++ frameL O.rs }, kk, rfl, hk, ⟨⟨fun hd => absurd hd h2, hok.2⟩, ?_⟩, trivial⟩, ?_⟩
 ·simp only [LogS.size, List.length_append, big]; omega
 intro y0 y1 y2 y3 y4 y5 h; obtain ⟨M, k', rs, e1, hk', rfl, rfl⟩ := h a1 () { L with loose := L.loose ++ frameL O.rs } kk rfl
 have e2 : LogS.act { L with loose := L.loose ++ frameL O.rs } = L.append (frameL O.rs) := by
  unfold LogS.append; rw [if_neg h2]
 rw [e2] at e1 hk'; have e1 := e1.symm; simp only [RlogU, List.reverse_cons, List.reverse_nil, List.cons_append, List.nil_append, List.cons.injEq, U.p.injEq, U.i.injEq, U.s.injEq, U.l.injEq, U.n.injEq, U.b.injEq, and_true] at e1; obtain ⟨rfl, rfl, rfl, rfl, rfl, rfl⟩ := e1; refine ⟨fun h3 => ⟨hP (L.append (frameL O.rs)) k' _ hk' ?_, fun _ _ => trivial⟩, fun h3 => ⟨hP (L.append (frameL O.rs)) k' _ hk' ?_, fun _ _ => trivial⟩⟩
 ·have h3 : (L.append (frameL O.rs)).down = true := by simpa using h3
  unfold appF; rw [if_neg (fun h => h h1), if_neg h2, if_pos h3]
 ·have h3 : ¬ (L.append (frameL O.rs)).down = true := by simpa using h3
  unfold appF; rw [if_neg (fun h => h h1), if_neg h2, if_neg h3]
def cfg_samerec : Cfg := { con := [(64, 1)], own := 1, loops := [(4, { slots := [5] })] }
def vcd_samerec : { v : VC // vcOf Tryz.prog cfg_samerec 19 = v } := by refine ⟨?v, ?h⟩; rotate_left; conv => lhs; reduce
theorem vce_samerec : vcOf Tryz.prog cfg_samerec 19 = vcd_samerec.1 := vcd_samerec.2
set_option maxHeartbeats 2000000 in
theorem samerec_keeps : Keeps Tryz.prog 19 SameC := by
 refine keeps_v Tryz.func19 cfg_samerec vce_samerec [.p, .n, .n, .p, .n, .n, .g] SameC [(64, PutC recordK)] ⟨krputrecord_ok, trivial⟩ (by kernel_rfl) (fun us w w' h hb => by
  obtain ⟨A, c, A', c', l, e, r1, r2, q⟩ := h; exact ⟨A, c, A', c', l, e, (r1.below hb).more hb.size, (r2.below hb).more hb.size, q⟩) ?_
 intro A n c A' n' c' α g w hp; refine ⟨[(4, cntInv)], vc_use ?Q ?h ?g⟩
 case h => intro O C s I b; conv => lhs; reduce
 dsimp only [std]; simp only [ctrOf, invOf, List.lookup, Nat.reduceBEq, Option.getD_some, Int.reduceOfNat, Int.reduceNegSucc]; obtain ⟨B, d, B', d', l, he, hr1, hr2, hv, hn⟩ := hp; simp only [RlogU, List.reverse_cons, List.reverse_nil, List.cons_append, List.nil_append, List.cons.injEq, U.p.injEq, U.i.injEq, U.s.injEq, U.l.injEq, U.n.injEq, U.b.injEq, and_true] at he; obtain ⟨rfl, rfl, rfl, rfl, rfl, rfl, hg⟩ := he; cases hg; have hK : ∀ w, SameC.pre [.p A, .n l.length, .n c, .p A', .n l.length, .n c', .g l] w → Rd w w.heap.size 38 A l.length (l.flatMap recordR.cells) ∧ Rd w w.heap.size 38 A' l.length (l.flatMap recordR.cells) := by
  rintro w ⟨B, d, B', d', l', he, r1, r2, _⟩; simp only [RlogU, List.reverse_cons, List.reverse_nil, List.cons_append, List.nil_append, List.cons.injEq, U.p.injEq, U.i.injEq, U.s.injEq, U.l.injEq, U.n.injEq, U.b.injEq, and_true] at he; obtain ⟨rfl, h2, rfl, rfl, _, rfl, hg⟩ := he; cases hg; exact ⟨r1, r2⟩
 clear hr1 hr2; refine ⟨fun h => absurd rfl h, fun _ => ⟨⟨Int.le_refl _, by decide⟩, fun _ _ => trivial, ?_⟩⟩; intro i hi; obtain ⟨i0, i1⟩ : 0 ≤ i ∧ i ≤ 1000000000000 := hi; refine ⟨fun hlt => ?_, fun _ => ⟨rfl, fun _ _ => trivial⟩⟩; have hin : i.toNat < l.length := by omega
 have hx := hv _ (List.getElem_mem hin); have hld : ∀ w, SameC.pre [.p A, .n l.length, .n c, .p A', .n l.length, .n c', .g l] w → LoadsAt w (A.map (·.add (i.toNat * 38))) (recordR.cells l[i.toNat]) ∧ LoadsAt w (A'.map (·.add (i.toNat * 38))) (recordR.cells l[i.toNat]) := fun w hw => ⟨loads_rec (hK w hw).1 hin, loads_rec (hK w hw).2 hin⟩
 generalize l[i.toNat] = x at hx hld; refine ⟨fun w hw => rd_not_nil (hK w hw.1).1 (by omega), i0, x.k, x.vote.h, x.vote.r, x.vote.s, x.vote.has, x.vote.b, x.vote.f, x.motion.r, x.motion.f, x.motion.block.header.c, x.motion.block.header.h, x.motion.block.header.p, x.motion.block.header.t, x.motion.block.header.g, x.motion.block.header.s, x.motion.block.header.r, x.motion.block.header.b, x.motion.block.header.o, x.motion.block.ta, x.motion.block.txs.length, x.motion.block.tc, x.motion.block.ga, x.motion.block.guilts.length, x.motion.block.gc, x.motion.ba, x.motion.basis.length, x.motion.bc, x.known.cert.h, x.known.cert.r, x.known.cert.s, x.known.cert.has, x.known.cert.b, x.known.cert.fa, x.known.cert.froms.length, x.known.cert.fc, x.known.block.header.c, x.known.block.header.h, x.known.block.header.p, x.known.block.header.t, x.known.block.header.g, x.known.block.header.s, x.known.block.header.r, x.known.block.header.b, x.known.block.header.o, x.known.block.ta, x.known.block.txs.length, x.known.block.tc, x.known.block.ga, x.known.block.guilts.length, x.known.block.gc, fun w hw => (hld w hw.1).1, Option RecordD, some x, fun w _ => vote_put hx w, ?_⟩; intro s1 e1 h1; obtain ⟨rfl, rfl⟩ := put_post (x := x) h1 rfl
 refine ⟨fun w hw => rd_not_nil (hK w hw.1.1).2 (by omega), by omega, x.k, x.vote.h, x.vote.r, x.vote.s, x.vote.has, x.vote.b, x.vote.f, x.motion.r, x.motion.f, x.motion.block.header.c, x.motion.block.header.h, x.motion.block.header.p, x.motion.block.header.t, x.motion.block.header.g, x.motion.block.header.s, x.motion.block.header.r, x.motion.block.header.b, x.motion.block.header.o, x.motion.block.ta, x.motion.block.txs.length, x.motion.block.tc, x.motion.block.ga, x.motion.block.guilts.length, x.motion.block.gc, x.motion.ba, x.motion.basis.length, x.motion.bc, x.known.cert.h, x.known.cert.r, x.known.cert.s, x.known.cert.has, x.known.cert.b, x.known.cert.fa, x.known.cert.froms.length, x.known.cert.fc, x.known.block.header.c, x.known.block.header.h, x.known.block.header.p, x.known.block.header.t, x.known.block.header.g, x.known.block.header.s, x.known.block.header.r, x.known.block.header.b, x.known.block.header.o, x.known.block.ta, x.known.block.txs.length, x.known.block.tc, x.known.block.ga, x.known.block.guilts.length, x.known.block.gc, fun w hw => (hld w hw.1.1).2, Option RecordD, some x, fun w _ => vote_put hx w, ?_⟩; intro s2 e2 h2; obtain ⟨rfl, rfl⟩ := put_post (x := x) h2 rfl; refine ⟨fun h => absurd (beq_self_eq_true _) h, fun _ => ⟨fun h => absurd rfl h, fun _ => ⟨⟨by omega, by omega⟩, ⟨by omega, by omega⟩, fun _ _ => trivial, ?_, trivial⟩⟩⟩; show (1000000000000 - (i + 1)).toNat < (1000000000000 - i).toNat; omega
def cfg_rbegin : Cfg := { con := [(16, 1), (62, 0), (63, 0)], own := 1, loops := [(5, { slots := [3, 4], rows := [3] }), (8, { slots := [5, 6], extra := [.un (.co .i) (.var 16)] })], rows := [(3, 66)], lents := [(16, [(0, 38)])], mine := [(0, 38)] }
def vcd_rbegin : { v : VC // vcOf Tryz.prog cfg_rbegin 18 = v } := by refine ⟨?v, ?h⟩; rotate_left; conv => lhs; reduce
theorem vce_rbegin : vcOf Tryz.prog cfg_rbegin 18 = vcd_rbegin.1 := vcd_rbegin.2
set_option maxHeartbeats 2000000 in
theorem rbegin_keeps : KeepsL Tryz.prog 18 RBeginC [(0, 38)] := by
 refine keepsL_v Tryz.func18 cfg_rbegin vce_rbegin [.p, .s, .i, .i, .i, .b, .g] RBeginC [(16, RDieC), (62, RFrameC), (63, RGetRW)] ⟨rdie_keeps, rframe_keeps, rgetrw_keeps, trivial⟩ (by kernel_rfl) (fun _ _ _ h => h) ?_; intro x0 x1 x2 x3 x4 x5 α g w hp; obtain ⟨a, L, k, he, hk, ⟨hok, hs⟩, hpl⟩ := hp; refine ⟨[(5, rloopInv L.up.safe), (8, numInv L.up.safe)], vc_use ?Q ?h ?g⟩
 case h => intro O C s I b; conv => lhs; reduce
 dsimp only [std]; simp only [ctrOf, invOf, List.lookup, Nat.reduceBEq, Option.getD_some, Int.reduceOfNat, Int.reduceNegSucc]; have he := he.symm; simp only [RlogU, List.reverse_cons, List.reverse_nil, List.cons_append, List.nil_append, List.cons.injEq, U.p.injEq, U.i.injEq, U.s.injEq, U.l.injEq, U.n.injEq, U.b.injEq, and_true] at he; obtain ⟨rfl, rfl, rfl, rfl, rfl, rfl, hg⟩ := he; cases hg; unfold LogS.size at hs; have hsz := LogS.up_size L; unfold LogS.size at hsz; have hlo : L.up.loose = [] := LogS.up_loose hok; have hn : (bs (L.safe ++ L.loose)).size = L.safe.length + L.loose.length := by rw [bs_size, List.length_append]
 have hup : ({ L.die ((bs (L.safe ++ L.loose)).size : Int) with down := false } : LogS) = L.up := by
  rw [hn]; unfold LogS.up LogS.die
  by_cases hd : L.down = true
  ·rw [if_pos hd, if_pos hd]
  ·rw [if_neg hd, if_neg hd, if_neg hd, List.take_of_length_le (by omega), List.take_of_length_le (by omega)]
 intro a1; refine ⟨LogS, L, fun w _ => ⟨a1, ((bs (L.safe ++ L.loose)).size : Int), L, k, rfl, hk, ⟨hok, by unfold LogS.size big; omega⟩, by unfold Iw; omega⟩, ?_⟩; intro y1 y2 y3 y4 y5 h; obtain ⟨M, k', rs, e1, hk', rfl, rfl⟩ := h a1 ((bs (L.safe ++ L.loose)).size : Int) L k rfl; clear h; generalize hM : L.die ((bs (L.safe ++ L.loose)).size : Int) = M at *; have m1 : M.safe = L.up.safe := by rw [← hup]
 have m2 : M.loose = [] := by rw [← hlo, ← hup]
 have m3 : M.left = L.up.left := by rw [← hup]
 have e1 := e1.symm; simp only [RlogU, List.reverse_cons, List.reverse_nil, List.cons_append, List.nil_append, List.cons.injEq, U.p.injEq, U.i.injEq, U.s.injEq, U.l.injEq, U.n.injEq, U.b.injEq, and_true] at e1; rw [m1, m2, List.append_nil, m3] at e1; obtain ⟨rfl, rfl, rfl, rfl, rfl⟩ := e1; have hkb : KeepOk L.begin k' := ⟨hk'.1, fun h0 => by
  have h0 : 0 < L.up.left := h0; show L.up.keep = _; rw [← m3] at h0; rw [← hk'.2 h0, ← hup]⟩
 have hsl : (bs L.up.safe).size = L.up.safe.length := bs_size _; have hls : L.up.safe.length ≤ 1000000000000 := by omega
 generalize hS : L.up.safe = S at *; refine ⟨⟨[], rfl, rfl, Int.le_refl _, by omega, by rw [show ((0 : Int)).toNat = 0 from rfl, List.drop_zero]; rfl, Int.le_refl _, fun _ h => nomatch h⟩, fun _ _ => trivial, ?_⟩; intro m xs t hi; obtain ⟨ds, rfl, rfl, t0, t1, hrun, hd12, hz⟩ := hi; obtain ⟨T, rfl⟩ : ∃ T : Nat, t = T := ⟨t.toNat, by omega⟩
 rw [Int.toNat_natCast] at hrun; have hfin : firstL (S.drop T) = none → ∀ (A : Option Addr) (c : Nat), RBeginC.post (.p a :: [] ++ RlogU L k ++ [.g L]) [.p A, .n ds.length, .n c, .s ((bs S).extract 0 T), .i T, .i L.up.left, .i k', .b false] ∧ ∀ w : World, w.ownsRow 0 66 38 (.slice A ds.length c) ds.length (ds.flatMap recordR.cells) → RBeginC.fact (.p a :: [] ++ RlogU L k ++ [.g L]) [.p A, .n ds.length, .n c, .s ((bs S).extract 0 T), .i T, .i L.up.left, .i k', .b false] w := by
  intro hf A c; rw [run_none hf, List.append_nil] at hrun; have hbeg : L.begin = { L.up with safe := S.take T } := by
   unfold LogS.begin; rw [hS, hrun, List.length_drop, show S.length - (S.length - T) = T by omega]
  have hds : ds.map recordR.strip = ds := votes_exact (fun y hy => hpl y (by rw [hrun]; exact hy)) hz; have hlt : (S.take T).length = T := by rw [List.length_take]; omega
  constructor
  ·refine RLogC.post_of (us := fun _ : Unit => []) (ok := fun _ => True) (n := 0) (x := ()) u_inj L.begin k' [.p A, .n ds.length, .n c] ?_ hkb ⟨A, c, by rw [hS, hrun, List.length_map], rfl⟩; rw [hbeg, bs_cut]; simp only [RlogU, hlo, List.append_nil, hlt]; rfl
  ·intro w hw a' L' k1 he; obtain ⟨_, e2⟩ := List.append_inj' he rfl; have e2 : some (U.g L) = some (U.g L') := by injection e2 with e2; rw [e2]
   obtain rfl := g_inj e2; refine ⟨A, c, _, by rw [hS, hrun, hds], ?_⟩; rw [hS, hrun, hds]; exact Rd.of_own hw
 have hdl : (S.drop T).length = S.length - T := List.length_drop ..; refine ⟨⟨by omega, by omega⟩, fun h12 => ?_, fun h12 => ⟨t0, by omega, fun A c => ⟨(hfin (first_short (.inl (by omega))) A c).1, fun w hw => (hfin (first_short (.inl (by omega))) A c).2 w hw.2⟩⟩⟩; refine ⟨⟨Int.le_refl _, by decide, t0, by omega, rfl⟩, fun _ _ => trivial, ?_⟩; intro nn ii hi2; obtain ⟨i0, i1, _, _, hnn⟩ := hi2; rw [Int.toNat_natCast] at hnn; have hlt4 := numOf_lt _ ((S.drop T).take ii.toNat) rfl; refine ⟨fun hi4 => ?_, fun hi4 => ?_⟩
 ·have hp3 : (256 : Nat) ^ ((S.drop T).take ii.toNat).length ≤ 256 ^ 3 := Nat.pow_le_pow_right (by decide) (by rw [List.length_take]; omega); have hp4 : (256 : Nat) ^ 3 = 16777216 := by decide
  have hb1 : (T + ii).toNat = T + ii.toNat := by omega
  have hgd : (bs S).data.toList.getD (T + ii).toNat 0 = (S.drop T).getD ii.toNat 0 := by
   rw [bs_data, hb1, List.getD_eq_getElem?_getD, List.getD_eq_getElem?_getD, List.getElem?_drop]
  have hnt := numOf_take (l := S.drop T) (k := ii.toNat) (by omega); rw [hgd]; have hby := ((S.drop T).getD ii.toNat 0).toNat_lt; generalize ((S.drop T).getD ii.toNat 0).toNat = B at *; rw [IntWalk.i64_in (B : Int) (by omega), hsl]; refine ⟨⟨by omega, by omega⟩, ⟨by omega, by omega⟩, by omega, by omega, ⟨by omega, by omega⟩, ⟨by omega, by omega⟩, ⟨by omega, by omega, t0, by omega, ?_⟩, fun _ _ => trivial, ?_, trivial⟩
  ·rw [Int.toNat_natCast, show (ii + 1).toNat = ii.toNat + 1 by omega, hnt, hnn]; omega
  ·show (4 - (ii + 1)).toNat < (4 - ii).toNat; omega
 obtain rfl : ii = 4 := by omega
 obtain rfl : nn = lenL (S.drop T) := hnn; clear hlt4; rw [hsl]; refine ⟨⟨by omega, by omega⟩, ⟨by omega, by omega⟩, fun hsh => ⟨t0, by omega, fun A c => ⟨(hfin (first_short (.inr (by omega))) A c).1, fun w hw => (hfin (first_short (.inr (by omega))) A c).2 w hw.2⟩⟩, fun hsh => ⟨⟨by omega, by omega⟩, by omega, by omega, by omega, by omega, ?_⟩⟩; have hE : (bs S).extract ((T : Int) + 12).toNat ((T : Int) + 12 + lenL (S.drop T)).toNat = bs (((S.drop T).drop 12).take (lenL (S.drop T))) := by
  rw [bs_extract, show ((T : Int) + 12 + lenL (S.drop T)).toNat = T + 12 + lenL (S.drop T) by omega, show ((T : Int) + 12).toNat = T + 12 by omega, List.drop_take, List.drop_drop, Nat.add_sub_cancel_left]
 have hE2 : (bs S).extract ((T : Int)).toNat ((T : Int) + 12 + lenL (S.drop T)).toNat = bs ((S.drop T).take (12 + lenL (S.drop T))) := by
  rw [bs_extract, show ((T : Int) + 12 + lenL (S.drop T)).toNat = T + (12 + lenL (S.drop T)) by omega, Int.toNat_natCast, List.drop_take, Nat.add_sub_cancel_left]
 simp only [hE, hE2]; have hRl : (((S.drop T).drop 12).take (lenL (S.drop T))).length = lenL (S.drop T) := by rw [List.length_take, List.length_drop]; omega
 have f1 : ¬ (S.drop T).length < 12 := by omega
 have f2 : ¬ (S.drop T).length - 12 < lenL (S.drop T) := by omega
 have f3 := @first_not (S.drop T); have f4 := @first_err (S.drop T); have f5 := @first_ok (S.drop T) f1 f2; generalize hR : ((S.drop T).drop 12).take (lenL (S.drop T)) = R at *; refine ⟨fun w _ => ⟨_, rfl, by rw [bs_size]; omega⟩, ?_⟩; intro x19 hfr; have hfr := hfr _ rfl; simp only [bs_data, List.cons.injEq, U.s.injEq, and_true] at hfr; subst hfr; refine ⟨fun w _ => ?_, ?_⟩
 ·show (bs R).size ≤ _; rw [bs_size]; omega
 intro y0 y1 y2 y3 y4 y5 y6 y7 y8 y9 y10 y11 y12 y13 y14 y15 y16 y17 y18 y19 y20 y21 y22 y23 y24 y25 y26 y27 y28 y29 y30 y31 y32 y33 y34 y35 y36 y37 y38 y39 y40 y41 y42 y43 y44 y45 y46 y47 y48 y49 e hg; obtain ⟨_, w1, x, hx, hh, hlim, hst⟩ := hg; have hx : ([.i y0, .i y1, .i y2, .i y3, .b y4, .i y5, .i y6, .i y7, .i y8, .i y9, .i y10, .i y11, .i y12, .i y13, .i y14, .i y15, .i y16, .i y17, .p y18, .n y19, .n y20, .p y21, .n y22, .n y23, .p y24, .n y25, .n y26, .i y27, .i y28, .i y29, .b y30, .i y31, .p y32, .n y33, .n y34, .i y35, .i y36, .i y37, .i y38, .i y39, .i y40, .i y41, .i y42, .i y43, .p y44, .n y45, .n y46, .p y47, .n y48, .n y49] : List U) ++ [U.i e] = _ := hx; obtain ⟨hx1, hx2⟩ := List.append_inj' hx rfl; injection hx2 with hx2
 injection hx2 with hx2
 have hx2 : e = errOf (pWhole recordR.p (fun y => (recordK.out y).re) (bs R)) := hx2; have hst : recordR.strip x = gotOf recordZ0 (pWhole recordR.p (fun y => (recordK.out y).re) (bs R)) := hst; refine ⟨fun he => ⟨t0, by omega, fun A c => ⟨(hfin (f4 (by rw [← hx2]; exact he)) A c).1, fun w hw => (hfin (f4 (by rw [← hx2]; exact he)) A c).2 w hw.2⟩⟩, fun he => ⟨t0, by omega, fun hne => ⟨by omega, fun A c => ⟨?_, fun w hw => ?_⟩⟩, fun heq => ?_⟩⟩
 ·rw [bs_toList, bs_toList, beq_iff_eq] at hne; exact (hfin (f3 hne) A c).1
 ·rw [bs_toList, bs_toList, beq_iff_eq] at hne; exact (hfin (f3 hne) A c).2 w hw.2
 ·rw [bs_toList, bs_toList, beq_iff_eq] at heq; have f6 := f5 heq (by rw [← hx2]; exact he); have f6 : firstL (S.drop T) = some (recordR.strip x, (S.drop T).drop (12 + lenL (S.drop T))) := by rw [hst]; exact f6
  rw [run_some f6, List.drop_drop] at hrun; have hx1 : ([.i y0, .i y1, .i y2, .i y3, .b y4, .i y5, .i y6, .i y7, .i y8, .i y9, .i y10, .i y11, .i y12, .i y13, .i y14, .i y15, .i y16, .i y17, .p y18, .n y19, .n y20, .p y21, .n y22, .n y23, .p y24, .n y25, .n y26, .i y27, .i y28, .i y29, .b y30, .i y31, .p y32, .n y33, .n y34, .i y35, .i y36, .i y37, .i y38, .i y39, .i y40, .i y41, .i y42, .i y43, .p y44, .n y45, .n y46, .p y47, .n y48, .n y49] : List U) = recordR.us x := hx1; simp only [recordR, List.cons.injEq, U.p.injEq, U.i.injEq, U.n.injEq, U.b.injEq, and_true] at hx1; obtain ⟨rfl, rfl, rfl, rfl, rfl, rfl, rfl, rfl, rfl, rfl, rfl, rfl, rfl, rfl, rfl, rfl, rfl, rfl, rfl, rfl, rfl, rfl, rfl, rfl, rfl, rfl, rfl, rfl, rfl, rfl, rfl, rfl, rfl, rfl, rfl, rfl, rfl, rfl, rfl, rfl, rfl, rfl, rfl, rfl, rfl, rfl, rfl, rfl, rfl, rfl⟩ := hx1; refine ⟨by omega, by omega, ⟨ds ++ [x], by rw [List.length_append]; rfl, ?_, by omega, by omega, ?_, by rw [List.length_append, List.length_singleton]; omega, fun z hz' => ?_⟩, fun _ _ => trivial, ?_, trivial⟩
  ·rw [List.flatMap_append]; rfl
  ·rw [show ((T : Int) + 12 + lenL (S.drop T)).toNat = T + (12 + lenL (S.drop T)) by omega, hrun, List.map_append, List.append_assoc]; rfl
  ·rcases List.mem_append.1 hz' with h | h
   ·exact hz z h
   ·rw [List.mem_singleton] at h; rw [h]; exact hh.2
  ·show (S.length - ((T : Int) + 12 + lenL (S.drop T))).toNat < (S.length - (T : Int)).toNat; omega
end Go.Proofs.YtjhaafbbdgjagaaGreat
