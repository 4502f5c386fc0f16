/- Of the texts Wal6. -/
import Derived.Test.YtjhaafbbdgjagaaG40
set_option linter.unusedSimpArgs false
set_option linter.unusedVariables false
namespace Go.Proofs.Ytjhaafbbdgjagaa
open Go Go.RowKit Vc
set_option maxRecDepth 100000
def Pb {α : Type} (p : ByteArray → Got α) (l : List UInt8) (x : α) : Prop := ∀ r, p (bs (l ++ r)) = .ok (x, bs r)
theorem bs_extract (l : List UInt8) (i j : Nat) : (bs l).extract i j = bs ((l.take j).drop i) := by
 apply ByteArray.ext; apply Array.toList_inj.1; simp only [ByteArray.data_extract, Array.toList_extract, bs_data, List.extract_eq_take_drop]; rw [List.drop_take]
theorem pTake_bs (a r : List UInt8) {n : Int} (hn : n = a.length) : pTake n (bs (a ++ r)) = .ok (bs a, bs r) := by
 unfold pTake; rw [bs_size, List.length_append, if_neg (by omega), bs_extract, bs_extract, hn, Int.toNat_natCast, List.drop_zero, List.take_append_of_le_length (Nat.le_refl _), List.take_of_length_le (Nat.le_refl _), ← List.length_append, List.take_of_length_le (Nat.le_refl _), List.drop_append_of_le_length (Nat.le_refl _), List.drop_of_length_le (Nat.le_refl _), List.nil_append]
theorem Pb.bind {α β : Type} {p : ByteArray → Got α} {f : α → ByteArray → Got β} {l m : List UInt8} {x : α} {y : β} (h : Pb p l x) (g : Pb (f x) m y) : Pb (pBind p f) (l ++ m) y := by
 intro r; unfold pBind; rw [List.append_assoc, h (m ++ r)]; exact g r
theorem Pb.ok {α : Type} (x : α) : Pb (fun z => .ok (x, z)) [] x := fun r => rfl
theorem be_snoc' (n : Int) : ∀ k : Nat, be n (k + 1) = be (n / 256) k ++ [UInt8.ofNat (n % 256).toNat]
 | 0 => by simp [be]
 | k + 1 => by
  show UInt8.ofNat (n / 256 ^ (k + 1) % 256).toNat :: be n (k + 1) = (UInt8.ofNat (n / 256 / 256 ^ k % 256).toNat :: be (n / 256) k) ++ _; rw [be_snoc' n k, Int.ediv_ediv_of_nonneg (by decide), Int.pow_succ, Int.mul_comm (256 ^ k) 256]; rfl
theorem ofNat_mod (n : Int) (h : 0 ≤ n) : ((UInt8.ofNat (n % 256).toNat).toNat : Int) = n % 256 := by
 rw [u8_of_nat]; omega
theorem numOf_be : ∀ (k : Nat) (n : Int), 0 ≤ n → n < 256 ^ k → (numOf (be n k) : Int) = n
 | 0, n, h0, h1 => by
  have : (256 : Int) ^ 0 = 1 := rfl; show ((0 : Nat) : Int) = n; omega
 | k + 1, n, h0, h1 => by
  have e : (256 : Int) ^ (k + 1) = 256 ^ k * 256 := Int.pow_succ ..; have hp := pow256 k; have hd : n / 256 < 256 ^ k := by omega
  rw [be_snoc', numOf_snoc]; have ih := numOf_be k (n / 256) (by omega) hd; have hm := ofNat_mod n h0; omega
theorem be_head : ∀ (f : Nat) (n : Int), 0 ≤ n → n < 256 ^ f → (blenF f n = 0 → n = 0) ∧ (0 < blenF f n → ¬ ((be n (blenF f n)).getD 0 0).toNat = 0) ∧ n < 256 ^ blenF f n
 | 0, n, h0, h1 => by
  have : (256 : Int) ^ 0 = 1 := rfl; exact ⟨fun _ => by omega, fun h => absurd h (by simp [blenF]), h1⟩
 | f + 1, n, h0, h1 => by
  have e : (256 : Int) ^ (f + 1) = 256 ^ f * 256 := Int.pow_succ ..; have hp := pow256 f; obtain ⟨i1, i2, i3⟩ := be_head f (n / 256) (by omega) (by omega); unfold blenF
  by_cases hn : 0 < n
  ·rw [if_pos hn]; refine ⟨fun h => by omega, fun _ => ?_, ?_⟩
   ·rw [be_snoc']; cases hb : blenF f (n / 256) with
    | zero =>
     have := i1 hb; have hm := ofNat_mod n h0; simp only [be, List.nil_append, List.getD_cons_zero]; omega
    | succ k =>
     rw [hb] at i2; have := i2 (Nat.succ_pos _); simpa [be] using this
   ·have e2 : (256 : Int) ^ (blenF f (n / 256) + 1) = 256 ^ blenF f (n / 256) * 256 := Int.pow_succ ..; have hp2 := pow256 (blenF f (n / 256)); omega
  ·rw [if_neg hn]; have : (256 : Int) ^ 0 = 1 := rfl; exact ⟨fun _ => by omega, fun h => absurd h (by omega), by omega⟩
theorem farN_false {n : Int} (h : farN n = false) : 0 ≤ n ∧ n ≤ 1099511627775 := by
 unfold farN at h; rw [decide_eq_false_iff_not] at h; omega
theorem pb_num {n : Int} (h : farN n = false) : Pb pNum (numB (numV n)) n := by
 intro r; obtain ⟨h0, h1⟩ := farN_false h; have e5 : (256 : Int) ^ 5 = 1099511627776 := by decide
 obtain ⟨b1, b2, b3⟩ := be_head 5 n h0 (by omega); have hl := blenF_le 5 n; have hv : numV n = n := by unfold numV; rw [h]; rfl
 rw [hv]; show pUpTo _ (bs ((UInt8.ofNat (blenF 5 n) :: be n (blenF 5 n)) ++ r)) = _; unfold pUpTo; rw [show (UInt8.ofNat (blenF 5 n) :: be n (blenF 5 n)) ++ r = [UInt8.ofNat (blenF 5 n)] ++ (be n (blenF 5 n) ++ r) from rfl, pTake_bs (n := 1) [UInt8.ofNat (blenF 5 n)] _ rfl]; have hk : byteAt (bs [UInt8.ofNat (blenF 5 n)]) 0 = blenF 5 n := by
  show (UInt8.ofNat (blenF 5 n)).toNat = _; rw [UInt8.toNat_ofNat', Nat.mod_eq_of_lt (by omega)]
 dsimp only; rw [hk, if_neg (by omega), pTake_bs _ _ (by rw [be_len])]; dsimp only; have hno := numOf_be (blenF 5 n) n h0 b3; rw [bs_data, hno, if_neg, if_neg (by show ¬ (1099511627775 < n); omega)]; rintro ⟨g1, g2⟩; rw [bs_size, be_len] at g1; exact b2 g1 g2
theorem pb_dig {d : Int} (h : 0 ≤ d ∧ d < 18446744073709551616) : Pb pDig (be d 8) d := by
 intro r; unfold pDig; rw [pTake_bs _ _ (by rw [be_len]; rfl)]; have e8 : (256 : Int) ^ 8 = 18446744073709551616 := by decide
 have := numOf_be 8 d h.1 (by omega); show Except.ok (((numOf (be d 8) : Nat) : Int), bs r) = _; rw [this]
theorem pb_flag (f : Bool) : Pb pFlag [if f then 1 else 0] f := by
 intro r; unfold pFlag; rw [pTake_bs (n := 1) [if f then 1 else 0] r rfl]; cases f <;> rfl
def Fine (v : VoteD) : Prop := v.ok ∧ (recO 1 v).re = 0
def voteB (v : VoteD) : List UInt8 := numB (numV v.h) ++ (numB (numV v.r) ++ (numB (numV v.s) ++ ([if v.has then 1 else 0] ++ (be v.b 8 ++ (numB (numV v.f) ++ [])))))
theorem fine_far {v : VoteD} (h : Fine v) : farN v.h = false ∧ farN v.r = false ∧ farN v.s = false ∧ farN v.f = false ∧ (recO 1 v).rs = numB (numV 1) ++ (voteB v ++ []) := by
 have h2 := h.2; have hf : (recO 1 v).far = ((((false || farN 1) || farN v.h) || farN v.r) || farN v.s || farN v.f) := rfl; unfold Out.re at h2
 by_cases h3 : (recO 1 v).far = true
 ·rw [if_pos h3] at h2; omega
 ·rw [if_neg h3] at h2
  by_cases h4 : (recO 1 v).odd = true
  ·rw [if_pos h4] at h2; omega
  ·have hb : (recO 1 v).b = [] ++ numB (numV 1) ++ numB (numV v.h) ++ numB (numV v.r) ++ numB (numV v.s) ++ [if v.has then 1 else 0] ++ be v.b 8 ++ numB (numV v.f) := rfl; rw [hf] at h3; simp only [Bool.false_or, Bool.or_eq_true, not_or, Bool.not_eq_true] at h3; refine ⟨h3.1.1.1.2, h3.1.1.2, h3.1.2, h3.2, ?_⟩; unfold Out.rs; rw [hf, if_neg (by simp [h3.1.1.1.1, h3.1.1.1.2, h3.1.1.2, h3.1.2, h3.2]), if_neg h4, hb]; unfold voteB; simp only [List.append_assoc, List.nil_append, List.append_nil]
theorem pb_vote {v : VoteD} (h : Fine v) : Pb pVote (voteB v) v := by
 obtain ⟨h1, h2, h3, h4, _⟩ := fine_far h; exact (pb_num h1).bind ((pb_num h2).bind ((pb_num h3).bind ((pb_flag v.has).bind ((pb_dig h.1).bind ((pb_num h4).bind (Pb.ok _))))))
theorem pb_rec {v : VoteD} (h : Fine v) : Pb pRecord (recO 1 v).rs (recW 1 v) := by
 obtain ⟨h1, h2, h3, h4, h5⟩ := fine_far h; rw [h5]; unfold pRecord; refine (pb_num (n := 1) rfl).bind ?_; show Pb (pBind pVote _) _ _; exact (pb_vote h).bind (Pb.ok _)
theorem whole_rec {v : VoteD} (h : Fine v) : pWhole recordR.p (fun y => (recordK.out y).re) (bs (recO 1 v).rs) = .ok (recW 1 v) := by
 have e := pb_rec h []; rw [List.append_nil] at e; unfold pWhole; have e : recordR.p (bs (recO 1 v).rs) = _ := e; rw [e]; dsimp only; rw [if_neg (by rw [bs_size]; simp)]; exact if_pos h.2
def fr (v : VoteD) : List UInt8 := frameL (recO 1 v).rs
def flat (l : List VoteD) : List UInt8 := l.flatMap fr
def Torn (t : List UInt8) : Prop := ∃ v k, k < (fr v).length ∧ t = (fr v).take k
theorem lenL_frame (s t : List UInt8) (k : Nat) (hk : 4 ≤ k) (h : s.length < 4294967296) : lenL ((frameL s).take k ++ t) = s.length := by
 unfold lenL frameL; have e : ((be s.length 4 ++ be (ofS 8 0 [s]) 8 ++ s).take k ++ t).take 4 = be (s.length : Int) 4 := by
  rw [List.take_append_of_le_length (by simp only [List.length_take, List.length_append, be_len]; omega), List.take_take, Nat.min_eq_left hk, List.append_assoc, List.take_append_of_le_length (by rw [be_len]; omega), List.take_of_length_le (by rw [be_len]; omega)]
 rw [e]; have e4 : (256 : Int) ^ 4 = 4294967296 := by decide
 have := numOf_be 4 (s.length : Int) (by omega) (by omega); omega
theorem first_torn {t : List UInt8} (h : Torn t) : firstL t = none := by
 obtain ⟨v, k, hk, rfl⟩ := h; have hl := recO_len 1 v; unfold fr at *; rw [frameL_len] at hk; have ht : ((frameL (recO 1 v).rs).take k).length = k := by rw [List.length_take, frameL_len]; omega
 unfold firstL; rw [ht]
 by_cases h12 : k < 12
 ·rw [if_pos h12]
 ·have e := lenL_frame (recO 1 v).rs [] k (by omega) (by omega); rw [List.append_nil] at e; rw [if_neg h12, e, if_pos (by omega)]
theorem first_frame {v : VoteD} (h : Fine v) (t : List UInt8) : firstL (fr v ++ t) = some (recW 1 v, t) := by
 have hl := recO_len 1 v; have hn := frameL_len (recO 1 v).rs; have e := lenL_frame (recO 1 v).rs t (frameL (recO 1 v).rs).length (by omega) (by omega); rw [List.take_of_length_le (Nat.le_refl _)] at e; unfold firstL fr; rw [e, List.length_append, hn, if_neg (by omega), if_neg (by omega)]; have e1 : ((frameL (recO 1 v).rs ++ t).drop 12).take (recO 1 v).rs.length = (recO 1 v).rs := by
  have : frameL (recO 1 v).rs ++ t = (be ((recO 1 v).rs.length : Int) 4 ++ be (ofS 8 0 [(recO 1 v).rs]) 8) ++ ((recO 1 v).rs ++ t) := by
   unfold frameL; simp only [List.append_assoc]
  rw [this, List.drop_append_of_le_length (by simp only [List.length_append, be_len]; omega), List.drop_of_length_le (by simp only [List.length_append, be_len]; omega), List.nil_append, List.take_append_of_le_length (Nat.le_refl _), List.take_of_length_le (Nat.le_refl _)]
 have e2 : (frameL (recO 1 v).rs ++ t).take (12 + (recO 1 v).rs.length) = frameL (recO 1 v).rs := by
  rw [← hn, List.take_append_of_le_length (Nat.le_refl _), List.take_of_length_le (Nat.le_refl _)]
 have e3 : (frameL (recO 1 v).rs ++ t).drop (12 + (recO 1 v).rs.length) = t := by
  rw [← hn, List.drop_append_of_le_length (Nat.le_refl _), List.drop_of_length_le (Nat.le_refl _), List.nil_append]
 rw [e1, if_pos e2.symm, whole_rec h, e3]; rfl
theorem run_flat : ∀ (l : List VoteD) (t : List UInt8), (∀ v ∈ l, Fine v) → Torn t → run (flat l ++ t) = (l.map (recW 1), t)
 | [], t, _, ht => run_none (first_torn ht)
 | v :: l, t, h, ht => by
  have e : flat (v :: l) ++ t = fr v ++ (flat l ++ t) := by
   show (fr v ++ flat l) ++ t = _; rw [List.append_assoc]
  rw [e, run_some (first_frame (h v (List.mem_cons_self ..)) _), run_flat l t (fun x hx => h x (List.mem_cons_of_mem _ hx)) ht]; rfl
theorem torn_nil : Torn [] := ⟨⟨0, 0, 0, false, 0, 0⟩, 0, by unfold fr; rw [frameL_len]; omega, rfl⟩
theorem flat_app (a b : List VoteD) : flat (a ++ b) = flat a ++ flat b := List.flatMap_append ..
theorem take_flat : ∀ (b : List VoteD) (k : Nat), ∃ c t, c <+: b ∧ (flat b).take k = flat c ++ t ∧ Torn t
 | [], k => ⟨[], [], List.prefix_refl _, by simp [flat], torn_nil⟩
 | v :: b, k => by
  by_cases hk : k < (fr v).length
  ·refine ⟨[], (fr v).take k, List.nil_prefix, ?_, v, k, hk, rfl⟩; show (fr v ++ flat b).take k = _; rw [List.take_append_of_le_length (by omega)]; rfl
  ·obtain ⟨c, t, h1, h2, h3⟩ := take_flat b (k - (fr v).length); refine ⟨v :: c, t, List.prefix_cons_inj v |>.2 h1, ?_, h3⟩; show (fr v ++ flat b).take k = (fr v ++ flat c) ++ t; rw [List.take_append, List.take_of_length_le (by omega), h2, List.append_assoc]
namespace LogS
def Up (L : LogS) (a b : List VoteD) : Prop := L.down = false ∧ L.safe = flat a ∧ L.loose = flat b ∧ ∀ v ∈ a ++ b, Fine v
def Dn (L : LogS) (a : List VoteD) : Prop := L.down = true ∧ L.loose = [] ∧ (∃ t, Torn t ∧ L.safe = flat a ++ t) ∧ ∀ v ∈ a, Fine v
theorem fine_pre {a b c : List VoteD} (h : ∀ v ∈ a ++ b, Fine v) (hc : c <+: b) : ∀ v ∈ a ++ c, Fine v := by
 intro v hv
 rcases List.mem_append.1 hv with g | g
 ·exact h v (List.mem_append_left _ g)
 ·exact h v (List.mem_append_right _ (hc.subset g))
theorem Up.die {L : LogS} {a b : List VoteD} (h : L.Up a b) (k : Int) : ∃ c, c <+: b ∧ (L.die k).Dn (a ++ c) := by
 obtain ⟨h1, h2, h3, h4⟩ := h; obtain ⟨c, t, c1, c2, c3⟩ := take_flat b k.toNat; refine ⟨c, c1, ?_⟩; unfold LogS.die; rw [if_neg (by rw [h1]; decide)]
 refine ⟨rfl, rfl, ⟨t, c3, ?_⟩, fine_pre h4 c1⟩; show L.safe ++ L.loose.take k.toNat = _; rw [h2, h3, c2, flat_app, List.append_assoc]
theorem Up.act {L : LogS} {a b : List VoteD} (h : L.Up a b) : L.act.Up a b ∨ ∃ c, c <+: b ∧ L.act.Dn (a ++ c) := by
 unfold LogS.act; split
 ·split
  ·exact .inr (Up.die (L := { L with left := 0 }) h _)
  ·exact .inl h
 ·exact .inl h
theorem Up.append {L : LogS} {a b : List VoteD} (h : L.Up a b) {v : VoteD} (hv : Fine v) : (L.append (fr v)).Up a (b ++ [v]) ∨ ∃ c, c <+: b ++ [v] ∧ (L.append (fr v)).Dn (a ++ c) := by
 obtain ⟨h1, h2, h3, h4⟩ := h; unfold LogS.append; rw [if_neg (by rw [h1]; decide)]
 refine Up.act (L := { L with loose := L.loose ++ fr v }) ⟨h1, h2, ?_, fun x hx => ?_⟩
 ·show L.loose ++ fr v = _; rw [h3, flat_app]; show _ = flat b ++ (fr v ++ []); rw [List.append_nil]
 ·rw [← List.append_assoc] at hx
  rcases List.mem_append.1 hx with g | g
  ·exact h4 x g
  ·rw [List.mem_singleton] at g; rw [g]; exact hv
theorem Up.sync {L : LogS} {a b : List VoteD} (h : L.Up a b) : (L.sync.2 = true ∧ L.sync.1.Up (a ++ b) []) ∨ (L.sync.2 = false ∧ ∃ c, c <+: b ∧ L.sync.1.Dn (a ++ c)) := by
 unfold LogS.sync; rw [if_neg (by rw [h.1]; decide)]
 dsimp only
 rcases h.act with g | ⟨c, g1, g2⟩
 ·obtain ⟨h1, h2, h3, h4⟩ := g; rw [if_neg (by rw [h1]; decide)]
  refine .inl ⟨rfl, h1, ?_, rfl, by rw [List.append_nil]; exact h4⟩; show L.act.safe ++ L.act.loose = _; rw [h2, h3, flat_app]
 ·rw [if_pos g2.1]; exact .inr ⟨rfl, c, g1, g2⟩
theorem Dn.append {L : LogS} {a : List VoteD} (h : L.Dn a) (f : List UInt8) : L.append f = L := by unfold LogS.append; rw [if_pos h.1]
theorem Dn.sync {L : LogS} {a : List VoteD} (h : L.Dn a) : L.sync = (L, false) := by unfold LogS.sync; rw [if_pos h.1]
theorem Dn.die {L : LogS} {a : List VoteD} (h : L.Dn a) (k : Int) : L.die k = L := by unfold LogS.die; rw [if_pos h.1]
theorem run_safe {L : LogS} {a : List VoteD} {t : List UInt8} (hs : L.up.safe = flat a ++ t) (ht : Torn t) (hf : ∀ v ∈ a, Fine v) (hl : L.up.loose = []) : run L.up.safe = (a.map (recW 1), t) ∧ L.begin.Up a [] := by
 have hr := run_flat a t hf ht; rw [← hs] at hr; refine ⟨hr, rfl, ?_, hl, by rw [List.append_nil]; exact hf⟩; show L.up.safe.take (L.up.safe.length - (run L.up.safe).2.length) = _; rw [hr, hs, List.length_append, Nat.add_sub_cancel, List.take_append_of_le_length (Nat.le_refl _), List.take_of_length_le (Nat.le_refl _)]
theorem Up.begin {L : LogS} {a b : List VoteD} (h : L.Up a b) : run L.up.safe = ((a ++ b).map (recW 1), []) ∧ L.begin.Up (a ++ b) [] := by
 obtain ⟨h1, h2, h3, h4⟩ := h; have e : L.up = { L.die L.loose.length with down := false } := by unfold LogS.up; rw [if_neg (by rw [h1]; decide)]
 have e2 : L.die L.loose.length = ⟨L.safe ++ L.loose, [], 0, 0, true⟩ := by
  unfold LogS.die; rw [if_neg (by rw [h1]; decide), Int.toNat_natCast, List.take_of_length_le (Nat.le_refl _)]
 refine run_safe (t := []) ?_ torn_nil h4 (by rw [e, e2]); rw [e, e2, List.append_nil, flat_app, ← h2, ← h3]
theorem Dn.begin {L : LogS} {a : List VoteD} (h : L.Dn a) : (∃ t, run L.up.safe = (a.map (recW 1), t)) ∧ L.begin.Up a [] := by
 obtain ⟨h1, h2, ⟨t, ht, hs⟩, hf⟩ := h; have e : L.up = { L with down := false } := by unfold LogS.up; rw [if_pos h1]
 have := run_safe (L := L) (a := a) (t := t) (by rw [e]; exact hs) ht hf (by rw [e]; exact h2); exact ⟨⟨t, this.1⟩, this.2⟩
end LogS
theorem plain_votes {l : List UInt8} {a : List VoteD} (h : (run l).1 = a.map (recW 1)) (hf : ∀ v ∈ a, Fine v) : Plain l := by
 intro y hy; rw [h] at hy; obtain ⟨v, hv, rfl⟩ := List.mem_map.1 hy; exact ⟨v, (hf v hv).1, rfl⟩
end Go.Proofs.Ytjhaafbbdgjagaa
