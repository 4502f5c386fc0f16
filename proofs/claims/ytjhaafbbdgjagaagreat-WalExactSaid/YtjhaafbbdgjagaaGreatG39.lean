/- Of the texts Gr0, Gp4, Gp5. -/
import Derived.Test.YtjhaafbbdgjagaaGreatProg
import Derived.Test.YtjhaafbbdgjagaaGreatG38
set_option linter.unusedSimpArgs false
set_option linter.unusedVariables false
namespace Go.Proofs.YtjhaafbbdgjagaaGreat
open Go.RowKit Vc
set_option maxRecDepth 100000
def Rel (b : ByteArray) (a e : Int) : Except Int ByteArray := if e = 0 then .ok (b.extract a.toNat b.size) else .error e
def okR (b : ByteArray) (a : Int) : Prop := 0 ≤ a ∧ a ≤ b.size ∧ Small b
def Reads {α : Type} (q : Except Int ByteArray) (p : ByteArray → Got α) (q' : Except Int ByteArray) (v : α) : Prop := q.bind p = q'.map fun s => (v, s)
theorem bind_step {α β : Type} {p : ByteArray → Got α} {f : α → ByteArray → Got β} {q q' : Except Int ByteArray} {v : α} (h : Reads q p q' v) : q.bind (pBind p f) = q'.bind (f v) := by
 unfold Reads at h; cases q with
 | error c =>
  cases q' with
  | error c' => simpa [Except.bind, Except.map] using h
  | ok s => simp [Except.bind, Except.map] at h
 | ok s =>
  cases q' with
  | error c' =>
   simp only [Except.bind, Except.map] at h ⊢
   unfold pBind; rw [h]
  | ok s' =>
   simp only [Except.bind, Except.map] at h ⊢
   unfold pBind; rw [h]
theorem Rel.zero {b : ByteArray} {a e : Int} (h : e = 0) : Rel b a e = .ok (b.extract a.toNat b.size) := if_pos h
theorem Rel.bad {b : ByteArray} {a e : Int} (h : ¬ e = 0) : Rel b a e = .error e := if_neg h
theorem err_reads {α : Type} {b : ByteArray} {a e : Int} (h : ¬ e = 0) (p : ByteArray → Got α) : (Rel b a e).bind p = .error e := by rw [Rel.bad h]; rfl
def rbadO : List U → List U
 | [.p _, .i c, .s b, .i a, .i e] => [.s b, .i a, .i (if e = 0 then c else e)]
 | _ => []
def RBadS : Ctr := { pre := fun _ _ => True, post := fun us os => os = rbadO us, fact := fun _ _ _ => True }
def cfg_rbad : Cfg := { mine := [(0, 122)] }
def vcd_rbad : { v : VC // vcOf Tryz.prog cfg_rbad 244 = v } := by refine ⟨?v, ?h⟩; rotate_left; conv => lhs; reduce
theorem vce_rbad : vcOf Tryz.prog cfg_rbad 244 = vcd_rbad.1 := vcd_rbad.2
theorem rbad_ok : KeepsL Tryz.prog 244 RBadS cfg_rbad.mine := by
 refine keepsL_v Tryz.func244 cfg_rbad vce_rbad [.p, .i, .s, .i, .i] RBadS [] trivial (by kernel_rfl) (fun _ _ _ h => h) ?_; intro x0 x1 x2 x3 x4 w hp; refine ⟨[], vc_use ?Q ?h ?g⟩
 case h => intro O C s I b; conv => lhs; reduce
 dsimp only [std]; simp +contextual [RBadS, rbadO]
def gr1P : List U → Prop
 | [.p _, .i n, .s b, .i a, .i _] => okR b a ∧ 0 ≤ n ∧ n ≤ 1000000
 | _ => False
def RTakeS : Ctr where
 pre us _ := gr1P us
 post us os := match us with
  | [.p _, .i n, .s b, .i a, .i e] => ∃ t a' e', os = [.s t, .s b, .i a', .i e'] ∧ okR b a' ∧ Reads (Rel b a e) (pTake n) (Rel b a' e') t ∧ (t.size : Int) ≤ n ∧ (¬ e' = 0 → t = ByteArray.empty)
  | _ => False
 fact _ _ _ := True
def cfg_rtake : Cfg := { con := [(244, 0)], lents := [(244, [(0, 122)])], mine := [(0, 122)] }
def vcd_rtake : { v : VC // vcOfP Tryz.prog cfg_rtake [(1, [1000006, 27, 1006013, 999999, 26, 30, 34, 38, 42, 46, 50, 54, 58, 62, 66, 70, 72]), (5, [1000016])] 243 = v } := by refine ⟨?v, ?h⟩; rotate_left; conv => lhs; reduce
theorem vce_rtake : vcOf Tryz.prog cfg_rtake 243 = vcd_rtake.1 := by kernel_rfl
theorem rtake_ok : KeepsL Tryz.prog 243 RTakeS cfg_rtake.mine := by
 refine keepsL_v Tryz.func243 cfg_rtake vce_rtake [.p, .i, .s, .i, .i] RTakeS [(244, RBadS)] ⟨rbad_ok, trivial⟩ (by kernel_rfl) (fun _ _ _ h => h) ?_; intro x0 x1 x2 x3 x4 w hp; refine ⟨[], vc_use ?Q ?h ?g⟩
 case h => intro O C s I b; conv => lhs; reduce
 dsimp only [std]; simp only [ctrOf, invOf, List.lookup, Nat.reduceBEq, Option.getD_some, Int.reduceOfNat, Int.reduceNegSucc]; obtain ⟨⟨h1, h2, h3⟩, h4, h5⟩ : okR x2 x3 ∧ 0 ≤ x1 ∧ x1 ≤ 1000000 := hp; have h3' : x2.size ≤ 1000000000000 := h3; have hE : (⟨#[]⟩ : ByteArray) = ByteArray.empty := rfl; have hsz : (x2.extract x3.toNat x2.size).size = x2.size - x3.toNat := by simp [ByteArray.size_extract]
 simp only [RBadS, rbadO]; refine ⟨fun he => ⟨by omega, fun hl x => ⟨fun _ _ => trivial, fun b' a' e' ho => ?_⟩, fun hl => ?_⟩, fun he => ?_⟩
 ·simp only [he, if_true, List.cons.injEq, U.s.injEq, U.i.injEq, and_true] at ho; obtain ⟨rfl, rfl, rfl⟩ := ho; refine ⟨fun _ => ⟨⟨ByteArray.empty, a', 1, by rw [hE], ⟨h1, h2, h3⟩, ?_, by simp; omega, fun _ => rfl⟩, fun _ _ => trivial⟩, fun h => absurd h (by decide)⟩; unfold Reads; rw [Rel.zero he]; show pTake x1 _ = _; unfold pTake; rw [if_pos (by rw [hsz]; omega)]; rfl
 ·refine ⟨by omega, by omega, by omega, h1, by omega, ⟨_, _, _, rfl, ⟨by omega, by omega, h3⟩, ?_, ?_, fun h => absurd he h⟩, fun _ _ => trivial⟩
  ·unfold Reads; rw [Rel.zero he, Rel.zero he]; show pTake x1 _ = .ok _; unfold pTake; rw [if_neg (by rw [hsz]; omega), hsz]; simp only [ByteArray.extract_extract]; rw [show min (x3.toNat + x1.toNat) x2.size = (x3 + x1).toNat by omega, show x3.toNat + 0 = x3.toNat by omega, show x3.toNat + x1.toNat = (x3 + x1).toNat by omega, show min (x3.toNat + (x2.size - x3.toNat)) x2.size = x2.size by omega]
  ·simp only [ByteArray.size_extract]; omega
 ·refine ⟨⟨ByteArray.empty, x3, x4, by rw [hE], ⟨h1, h2, h3⟩, ?_, by simp; omega, fun _ => rfl⟩, fun _ _ => trivial⟩; unfold Reads; rw [Rel.bad he]; rfl
theorem take_size {q q' : Except Int ByteArray} {n : Int} {t s : ByteArray} (h : Reads q (pTake n) q' t) (hq : q' = .ok s) (h0 : 0 ≤ n) : (t.size : Int) = n := by
 unfold Reads at h; subst hq; cases q with
 | error c => simp [Except.bind, Except.map] at h
 | ok z =>
  simp only [Except.bind, Except.map] at h; unfold pTake at h; split at h
  ·cases h
  ·next hl =>
   simp only [Except.ok.injEq, Prod.mk.injEq] at h; rw [← h.1, ByteArray.size_extract]; omega
def upTo2 (most : Int) (t : ByteArray) (s : ByteArray) : Got Int := if 0 < t.size ∧ byteAt t 0 = 0 then .error 2 else if most < (numOf t.data.toList : Int) then .error 3 else .ok (numOf t.data.toList, s)
def upTo1 (most : Int) (k : ByteArray) (s : ByteArray) : Got Int := if 5 < byteAt k 0 then .error 2 else pBind (pTake (byteAt k 0 : Int)) (upTo2 most) s
theorem pUpTo_eq (most : Int) : pUpTo most = pBind (pTake 1) (upTo1 most) := by
 funext s; unfold pUpTo pBind upTo1; cases pTake 1 s with
 | error e => rfl
 | ok r =>
  obtain ⟨k, s1⟩ := r; show (if _ then _ else _) = (if _ then _ else _); split
  ·rfl
  ·unfold pBind upTo2; cases pTake (byteAt k 0 : Int) s1 <;> rfl
theorem upTo_fin (b : ByteArray) (a e most : Int) (t : ByteArray) (hem : ¬ e = 0 → t = ByteArray.empty) (hm : 0 ≤ most) (e1 e2 : Int) (h1 : e1 = if 0 < t.size ∧ byteAt t 0 = 0 then (if e = 0 then 2 else e) else e) (h2 : e2 = if most < (numOf t.data.toList : Int) then (if e1 = 0 then 3 else e1) else e1) (n : Int) (hn : n = if e2 = 0 then (numOf t.data.toList : Int) else 0) :
  (Rel b a e).bind (upTo2 most t) = (Rel b a e2).map (fun s => (n, s)) ∧ 0 ≤ n ∧ n ≤ most := by
 by_cases he : e = 0
 ·subst he; rw [Rel.zero rfl]; show upTo2 most t _ = _ ∧ _; unfold upTo2
  by_cases hz : 0 < t.size ∧ byteAt t 0 = 0
  ·simp only [if_pos hz, if_true] at h1 ⊢
   subst h1; have : e2 = 2 := by rw [h2]; split <;> simp
   subst this; exact ⟨by rw [Rel.bad (by decide)]; rfl, by simp [hn], by simp [hn, hm]⟩
  ·simp only [if_neg hz] at h1 ⊢
   subst h1
   by_cases hg : most < (numOf t.data.toList : Int)
   ·simp only [if_pos hg, if_true] at h2 ⊢
    subst h2; exact ⟨by rw [Rel.bad (by decide)]; rfl, by simp [hn], by simp [hn, hm]⟩
   ·simp only [if_neg hg] at h2 ⊢
    subst h2; rw [if_pos rfl] at hn; subst hn; exact ⟨by rw [Rel.zero rfl]; rfl, by omega, by omega⟩
 ·have ht := hem he; subst ht; have e1e : e1 = e := by rw [h1, if_neg (fun h => by have := h.1; simp at this)]
  have hz : numOf ByteArray.empty.data.toList = 0 := rfl; have e2e : e2 = e := by rw [h2, hz, if_neg (by omega), e1e]
  rw [e2e, err_reads he, Rel.bad he]; rw [e2e, if_neg he] at hn; subst hn; exact ⟨rfl, by omega, hm⟩
def RUpToS : Ctr where
 pre us _ := match us with
  | [.p _, .i n, .s b, .i a, .i _] => okR b a ∧ 0 ≤ n
  | _ => False
 post us os := match us with
  | [.p _, .i m, .s b, .i a, .i e] => ∃ n a' e', os = [.i n, .s b, .i a', .i e'] ∧ okR b a' ∧ Reads (Rel b a e) (pUpTo m) (Rel b a' e') n ∧ 0 ≤ n ∧ n ≤ m
  | _ => False
 fact _ _ _ := True
def rupInv : Inv where
 inv us := match us with
  | [.i n, .i k, .s t] => t.size ≤ 5 ∧ 0 ≤ k ∧ k ≤ t.size ∧ n = numOf (t.data.toList.take k.toNat)
  | _ => False
 mea us := match us with
  | [.i _, .i k, .s t] => ((t.size : Int) - k).toNat
  | _ => 0
def cfg_rupto : Cfg := { con := [(243, 0), (244, 0)], loops := [(10, { slots := [7, 8], extra := [.var 11] })], lents := [(243, [(0, 122)]), (244, [(0, 122)])], mine := [(0, 122)] }
def vcd_rupto : { v : VC // vcOf Tryz.prog cfg_rupto 147 = v } := by refine ⟨?v, ?h⟩; rotate_left; conv => lhs; reduce
theorem vce_rupto : vcOf Tryz.prog cfg_rupto 147 = vcd_rupto.1 := vcd_rupto.2
theorem rupto_ok : KeepsL Tryz.prog 147 RUpToS cfg_rupto.mine := by
 refine keepsL_v Tryz.func147 cfg_rupto vce_rupto [.p, .i, .s, .i, .i] RUpToS [(243, RTakeS), (244, RBadS)] ⟨rtake_ok, rbad_ok, trivial⟩ (by kernel_rfl) (fun _ _ _ h => h) ?_; intro x0 most b a e w hp; refine ⟨[(10, rupInv)], vc_use ?Q ?h ?g⟩
 case h => intro O C s I b; conv => lhs; reduce
 dsimp only [std]; simp only [ctrOf, invOf, List.lookup, Nat.reduceBEq, Option.getD_some, Int.reduceOfNat, Int.reduceNegSucc]; obtain ⟨ok0, hm⟩ : okR b a ∧ 0 ≤ most := hp; have fin : ∀ n a' e', okR b a' → (Rel b a e).bind (pUpTo most) = (Rel b a' e').map (fun s => (n, s)) → 0 ≤ n → n ≤ most → RUpToS.post [.p x0, .i most, .s b, .i a, .i e] [.i n, .s b, .i a', .i e'] ∧ ∀ (w : World) (A : Prop), A → RUpToS.fact [.p x0, .i most, .s b, .i a, .i e] [.i n, .s b, .i a', .i e'] w := fun n a' e' h1 h2 h3 h4 => ⟨⟨n, a', e', rfl, h1, h2, h3, h4⟩, fun _ _ _ => trivial⟩
 intro x5; refine ⟨fun _ _ => ⟨ok0, by decide, by decide⟩, fun k b1 a1 e1 ⟨t1, a1', e1', ho, ok1, W1, _, em1⟩ => ?_⟩; simp only [List.cons.injEq, U.s.injEq, U.i.injEq, and_true] at ho; obtain ⟨rfl, rfl, rfl, rfl⟩ := ho; have B1 : (Rel b1 a e).bind (pUpTo most) = (Rel b1 a1 e1).bind (upTo1 most k) := by rw [pUpTo_eq]; exact bind_step W1
 refine ⟨fun h => ?_, fun h => ?_⟩
 ·obtain ⟨f1, f2⟩ := fin 0 a1 e1 ok1 (B1.trans (by rw [err_reads h, Rel.bad h]; rfl)) (by omega) hm; exact ⟨f1, fun w hw => f2 w _ hw⟩
 subst h; have z1 := take_size W1 (Rel.zero rfl) (by decide); have hb := byte_lt k 0; have hw : IntKind.wrap .i64 ((k.data.toList.getD 0 0).toNat : Int) = (byteAt k 0 : Int) := IntWalk.i64_in _ (by unfold byteAt at hb; omega); rw [Rel.zero rfl] at B1; simp only [RBadS, rbadO]; refine ⟨by omega, fun h5 => ?_, fun h5 => ?_⟩
 ·refine fun x10 => ⟨fun _ _ => trivial, fun b2 a2 e2 ho => ?_⟩
  simp only [if_true, List.cons.injEq, U.s.injEq, U.i.injEq, and_true] at ho; obtain ⟨rfl, rfl, rfl⟩ := ho; obtain ⟨f1, f2⟩ := fin 0 a2 2 ok1 (B1.trans (by show upTo1 most k _ = _; unfold upTo1; rw [if_pos (by unfold byteAt; omega), Rel.bad (by decide)]; rfl)) (by omega) hm; exact ⟨f1, fun w hw => f2 w _ hw⟩
 have h5' : ¬ 5 < byteAt k 0 := by unfold byteAt; omega
 intro x10; rw [hw]; refine ⟨fun _ _ => ⟨ok1, by omega, by omega⟩, fun t b2 a2 e2 ⟨t2, a2', e2', ho, ok2, W2, sz2, em2⟩ => ?_⟩; simp only [List.cons.injEq, U.s.injEq, U.i.injEq, and_true] at ho; obtain ⟨rfl, rfl, rfl, rfl⟩ := ho; rw [Rel.zero rfl] at W2; have B2 : (Rel b2 a e).bind (pUpTo most) = (Rel b2 a2 e2).bind (upTo2 most t) := by
  rw [B1]; show upTo1 most k _ = _; unfold upTo1; rw [if_neg h5']; exact bind_step W2
 refine ⟨⟨by omega, by decide, by omega, rfl⟩, fun _ _ => trivial, fun n j ⟨v1, v2, v3, v4⟩ => ⟨fun hlt => ?_, fun hge => ?_⟩⟩
 ·have hl := size_list t; have hbk : (t.data.toList.getD j.toNat 0).toNat < 256 := byte_lt t j.toNat; have hnl := numOf_lt _ (t.data.toList.take j.toNat) rfl; have hk : (t.data.toList.take j.toNat).length ≤ 4 := by rw [List.length_take]; omega
  have hnl2 : numOf (t.data.toList.take j.toNat) < 1099511627776 := Nat.lt_of_lt_of_le hnl (Nat.le_trans (Nat.pow_le_pow_right (by decide) hk) (by decide)); have hw2 : IntKind.wrap .i64 ((t.data.toList.getD j.toNat 0).toNat : Int) = ((t.data.toList.getD j.toNat 0).toNat : Int) := IntWalk.i64_in _ (by omega); have hnx : n * 256 + ((t.data.toList.getD j.toNat 0).toNat : Int) = (numOf (t.data.toList.take (j + 1).toNat) : Int) := by
   rw [v4, show (j + 1).toNat = j.toNat + 1 by omega, numOf_take (by omega)]; omega
  rw [hw2]; exact ⟨⟨by omega, by omega⟩, v2, ⟨by omega, by omega⟩, ⟨by omega, by omega⟩, ⟨v1, by omega, by omega, hnx⟩, fun _ _ => trivial, by show ((t.size : Int) - (j + 1)).toNat < ((t.size : Int) - j).toNat; omega, trivial⟩
 ·have hl := size_list t; have hall : t.data.toList.take j.toNat = t.data.toList := List.take_of_length_le (by omega); rw [hall] at v4; subst v4; have F := fun e1 e2' h1 h2 n hn => upTo_fin b2 a2 e2 most t em2 hm e1 e2' h1 h2 n hn
  have fin2 : ∀ (e1 e3 n : Int), (e1 = if 0 < t.size ∧ byteAt t 0 = 0 then (if e2 = 0 then 2 else e2) else e2) → (e3 = if most < (numOf t.data.toList : Int) then (if e1 = 0 then 3 else e1) else e1) → (n = if e3 = 0 then (numOf t.data.toList : Int) else 0) → RUpToS.post [.p x0, .i most, .s b2, .i a, .i e] [.i n, .s b2, .i a2, .i e3] ∧ ∀ (w : World) (A : Prop), A → RUpToS.fact [.p x0, .i most, .s b2, .i a, .i e] [.i n, .s b2, .i a2, .i e3] w := fun e1 e3 n h1 h2 h3 => by
   obtain ⟨g1, g2, g3⟩ := F e1 e3 h1 h2 n h3; exact fin n a2 e3 ok2 (B2.trans g1) g2 g3
  have hbn : byteAt t 0 = (t.data.toList.getD 0 0).toNat := rfl; have tl : ∀ (e1 : Int), (e1 = if 0 < t.size ∧ byteAt t 0 = 0 then (if e2 = 0 then 2 else e2) else e2) → ∀ (e3 : Int), (e3 = if most < (numOf t.data.toList : Int) then (if e1 = 0 then 3 else e1) else e1) → (¬ e3 = 0 → RUpToS.post [.p x0, .i most, .s b2, .i a, .i e] [.i 0, .s b2, .i a2, .i e3]) ∧ (e3 = 0 → RUpToS.post [.p x0, .i most, .s b2, .i a, .i e] [.i (numOf t.data.toList : Int), .s b2, .i a2, .i e3]) := fun e1 h1 e3 h3 => ⟨fun h => (fin2 e1 e3 0 h1 h3 (by rw [if_neg h])).1, fun h => (fin2 e1 e3 _ h1 h3 (by rw [if_pos h])).1⟩
  have goE : ∀ e1, (e1 = if 0 < t.size ∧ byteAt t 0 = 0 then (if e2 = 0 then 2 else e2) else e2) → (¬ most < (numOf t.data.toList : Int)) → (¬ e1 = 0 → RUpToS.post [.p x0, .i most, .s b2, .i a, .i e] [.i 0, .s b2, .i a2, .i e1]) ∧ (e1 = 0 → RUpToS.post [.p x0, .i most, .s b2, .i a, .i e] [.i (numOf t.data.toList : Int), .s b2, .i a2, .i e1]) := fun e1 h1 hn => tl e1 h1 e1 (by rw [if_neg hn])
  have goG : ∀ e1, (e1 = if 0 < t.size ∧ byteAt t 0 = 0 then (if e2 = 0 then 2 else e2) else e2) → (most < (numOf t.data.toList : Int)) → (¬ (if e1 = 0 then (3 : Int) else e1) = 0 → RUpToS.post [.p x0, .i most, .s b2, .i a, .i e] [.i 0, .s b2, .i a2, .i (if e1 = 0 then (3 : Int) else e1)]) ∧ ((if e1 = 0 then (3 : Int) else e1) = 0 → RUpToS.post [.p x0, .i most, .s b2, .i a, .i e] [.i (numOf t.data.toList : Int), .s b2, .i a2, .i (if e1 = 0 then (3 : Int) else e1)]) := fun e1 h1 hn => tl e1 h1 _ (by rw [if_pos hn])
  have ff : ∀ (os : List U) (w : World), RUpToS.fact [.p x0, .i most, .s b2, .i a, .i e] os w := fun _ _ => trivial
  have e1z : (0 : Int) < (t.size : Int) → ((t.data.toList.getD 0 0).toNat : Int) = 0 → (if e2 = 0 then (2 : Int) else e2) = if 0 < t.size ∧ byteAt t 0 = 0 then (if e2 = 0 then 2 else e2) else e2 := fun h1 h2 => (if_pos (c := 0 < t.size ∧ byteAt t 0 = 0) ⟨by omega, by omega⟩).symm
  have e1n : ¬ ((t.data.toList.getD 0 0).toNat : Int) = 0 → e2 = if 0 < t.size ∧ byteAt t 0 = 0 then (if e2 = 0 then 2 else e2) else e2 := fun h2 => by rw [if_neg (fun h => by have := h.2; omega)]
  have e1s : ¬ (0 : Int) < (t.size : Int) → e2 = if 0 < t.size ∧ byteAt t 0 = 0 then (if e2 = 0 then 2 else e2) else e2 := fun h2 => by rw [if_neg (fun h => by have := h.1; omega)]
  refine ⟨fun hs => ⟨fun hz x => ⟨fun _ _ => trivial, fun b3 a3 e3 ho => ?_⟩, fun hz => ?_⟩, fun hs => ?_⟩
  ·simp only [List.cons.injEq, U.s.injEq, U.i.injEq, and_true] at ho; obtain ⟨q1, q2, q3⟩ := ho; rw [q1, q2, q3]; have E := e1z hs hz; refine ⟨fun hg x => ⟨fun _ _ => trivial, fun b4 a4 e4 ho => ?_⟩, fun hg => ⟨fun h => ⟨(goE _ E hg).1 h, fun _ _ => trivial⟩, fun h => ⟨(goE _ E hg).2 h, fun _ _ => trivial⟩⟩⟩; simp only [List.cons.injEq, U.s.injEq, U.i.injEq, and_true] at ho; obtain ⟨q1, q2, q3⟩ := ho; rw [q1, q2, q3]; exact ⟨fun h => ⟨(goG _ E hg).1 h, fun _ _ => trivial⟩, fun h => ⟨(goG _ E hg).2 h, fun _ _ => trivial⟩⟩
  ·have E := e1n hz; refine ⟨fun hg x => ⟨fun _ _ => trivial, fun b4 a4 e4 ho => ?_⟩, fun hg => ⟨fun h => ⟨(goE _ E hg).1 h, fun _ _ => trivial⟩, fun h => ⟨(goE _ E hg).2 h, fun _ _ => trivial⟩⟩⟩; simp only [List.cons.injEq, U.s.injEq, U.i.injEq, and_true] at ho; obtain ⟨q1, q2, q3⟩ := ho; rw [q1, q2, q3]; exact ⟨fun h => ⟨(goG _ E hg).1 h, fun _ _ => trivial⟩, fun h => ⟨(goG _ E hg).2 h, fun _ _ => trivial⟩⟩
  ·have E := e1s hs; refine ⟨fun hg x => ⟨fun _ _ => trivial, fun b4 a4 e4 ho => ?_⟩, fun hg => ⟨fun h => ⟨(goE _ E hg).1 h, fun _ _ => trivial⟩, fun h => ⟨(goE _ E hg).2 h, fun _ _ => trivial⟩⟩⟩; simp only [List.cons.injEq, U.s.injEq, U.i.injEq, and_true] at ho; obtain ⟨q1, q2, q3⟩ := ho; rw [q1, q2, q3]; exact ⟨fun h => ⟨(goG _ E hg).1 h, fun _ _ => trivial⟩, fun h => ⟨(goG _ E hg).2 h, fun _ _ => trivial⟩⟩
def rdS {α : Type} (mk : α → List U) (p : ByteArray → Got α) (lim : α → Prop) : Ctr where
 pre us _ := match us with
  | [.p _, .s b, .i a, .i _] => okR b a
  | _ => False
 post us os := match us with
  | [.p _, .s b, .i a, .i e] => ∃ v a' e', os = mk v ++ [.s b, .i a', .i e'] ∧ okR b a' ∧ Reads (Rel b a e) p (Rel b a' e') v ∧ lim v
  | _ => False
 fact _ _ _ := True
def limN (n : Int) : Prop := 0 ≤ n ∧ n ≤ 1099511627775
def limD (n : Int) : Prop := 0 ≤ n ∧ n < 18446744073709551616
def RNumS : Ctr := rdS (fun n => [.i n]) pNum limN
def RDigS : Ctr := rdS (fun n => [.i n]) pDig limD
def RFlagS : Ctr := rdS (fun b => [.b b]) pFlag fun _ => True
def cfg_rnum : Cfg := { con := [(147, 0)], lents := [(147, [(0, 122)])], mine := [(0, 122)] }
def vcd_rnum : { v : VC // vcOf Tryz.prog cfg_rnum 67 = v } := by refine ⟨?v, ?h⟩; rotate_left; conv => lhs; reduce
theorem vce_rnum : vcOf Tryz.prog cfg_rnum 67 = vcd_rnum.1 := vcd_rnum.2
theorem rnum_ok : KeepsL Tryz.prog 67 RNumS cfg_rnum.mine := by
 refine keepsL_v Tryz.func67 cfg_rnum vce_rnum [.p, .s, .i, .i] RNumS [(147, RUpToS)] ⟨rupto_ok, trivial⟩ (by kernel_rfl) (fun _ _ _ h => h) ?_; intro x0 b a e w hp; refine ⟨[], vc_use ?Q ?h ?g⟩
 case h => intro O C s I b; conv => lhs; reduce
 dsimp only [std]; simp only [ctrOf, invOf, List.lookup, Nat.reduceBEq, Option.getD_some, Int.reduceOfNat, Int.reduceNegSucc]; have ok0 : okR b a := hp; intro x5; refine ⟨fun _ _ => ⟨ok0, by decide⟩, fun n b1 a1 e1 ⟨n1, a1', e1', ho, ok1, W1, lo, hi⟩ => ?_⟩; simp only [List.cons.injEq, U.s.injEq, U.i.injEq, and_true] at ho; obtain ⟨q1, q2, q3, q4⟩ := ho; rw [q1, q2, q3, q4]; exact ⟨⟨n1, a1', e1', rfl, ok1, W1, lo, hi⟩, fun _ _ => trivial⟩
def rdigInv : Inv where
 inv us := match us with
  | [.i n, .i k, .s t] => t.size ≤ 8 ∧ 0 ≤ k ∧ k ≤ t.size ∧ n = numOf (t.data.toList.take k.toNat)
  | _ => False
 mea us := match us with
  | [.i _, .i k, .s t] => ((t.size : Int) - k).toNat
  | _ => 0
def cfg_rdig : Cfg := { con := [(243, 0)], loops := [(4, { slots := [4, 5], extra := [.var 5] })], lents := [(243, [(0, 122)])], mine := [(0, 122)] }
def vcd_rdig : { v : VC // vcOf Tryz.prog cfg_rdig 156 = v } := by refine ⟨?v, ?h⟩; rotate_left; conv => lhs; reduce
theorem vce_rdig : vcOf Tryz.prog cfg_rdig 156 = vcd_rdig.1 := vcd_rdig.2
theorem rdig_ok : KeepsL Tryz.prog 156 RDigS cfg_rdig.mine := by
 refine keepsL_v Tryz.func156 cfg_rdig vce_rdig [.p, .s, .i, .i] RDigS [(243, RTakeS)] ⟨rtake_ok, trivial⟩ (by kernel_rfl) (fun _ _ _ h => h) ?_; intro x0 b a e w hp; refine ⟨[(4, rdigInv)], vc_use ?Q ?h ?g⟩
 case h => intro O C s I b; conv => lhs; reduce
 dsimp only [std]; simp only [ctrOf, invOf, List.lookup, Nat.reduceBEq, Option.getD_some, Int.reduceOfNat, Int.reduceNegSucc]; have ok0 : okR b a := hp; intro x5; refine ⟨fun _ _ => ⟨ok0, by decide, by decide⟩, fun t b1 a1 e1 ⟨t1, a1', e1', ho, ok1, W1, sz, em⟩ => ?_⟩; simp only [List.cons.injEq, U.s.injEq, U.i.injEq, and_true] at ho; obtain ⟨rfl, rfl, rfl, rfl⟩ := ho; refine ⟨⟨by omega, by decide, by omega, rfl⟩, fun _ _ => trivial, fun n j ⟨v1, v2, v3, v4⟩ => ⟨fun hlt => ?_, fun hge => ?_⟩⟩
 ·have hl := size_list t; have hnx : IntKind.wrap .u64 ((IntKind.wrap .u64 (n * 256)) + (IntKind.wrap .u64 (t.data.toList.getD j.toNat 0).toNat)) = (numOf (t.data.toList.take (j + 1).toNat) : Int) := by
   have hbk : (t.data.toList.getD j.toNat 0).toNat < 256 := byte_lt t j.toNat; have hnl := numOf_lt _ (t.data.toList.take j.toNat) rfl; have hk : (t.data.toList.take j.toNat).length ≤ 7 := by rw [List.length_take]; omega
   have hnl2 : numOf (t.data.toList.take j.toNat) < 72057594037927936 := Nat.lt_of_lt_of_le hnl (Nat.le_trans (Nat.pow_le_pow_right (by decide) hk) (by decide)); have nx : numOf (t.data.toList.take (j + 1).toNat) = numOf (t.data.toList.take j.toNat) * 256 + (t.data.toList.getD j.toNat 0).toNat := by
    rw [show (j + 1).toNat = j.toNat + 1 by omega, numOf_take (by omega)]
   have w1 : IntKind.wrap .u64 ((numOf (t.data.toList.take j.toNat) : Int) * 256) = (numOf (t.data.toList.take j.toNat) : Int) * 256 := IntWalk.u64_in _ (by omega); have w2 : IntKind.wrap .u64 ((t.data.toList.getD j.toNat 0).toNat : Int) = ((t.data.toList.getD j.toNat 0).toNat : Int) := IntWalk.u64_in _ (by omega); rw [nx, v4, w1, w2, IntWalk.u64_in _ (by omega)]; omega
  rw [hnx]; exact ⟨v2, ⟨by omega, by omega⟩, ⟨v1, by omega, by omega, rfl⟩, fun _ _ => trivial, by show ((t.size : Int) - (j + 1)).toNat < ((t.size : Int) - j).toNat; omega, trivial⟩
 ·have hl := size_list t; have hall : t.data.toList.take j.toNat = t.data.toList := List.take_of_length_le (by omega); rw [hall] at v4; have hnl := numOf_lt _ t.data.toList rfl; have hnl2 : numOf t.data.toList < 18446744073709551616 := Nat.lt_of_lt_of_le hnl (Nat.le_trans (Nat.pow_le_pow_right (by decide) (show t.data.toList.length ≤ 8 by omega)) (by decide)); refine ⟨⟨n, a1, e1, rfl, ok1, ?_, by omega, by omega⟩, fun _ _ => trivial⟩; unfold Reads at W1 ⊢
  rw [v4]; generalize Rel b1 a e = q at W1 ⊢
  generalize Rel b1 a1 e1 = q' at W1 ⊢
  rcases q with c | s <;> rcases q' with c' | s' <;> simp only [Except.bind, Except.map] at W1 ⊢
  ·cases W1; rfl
  ·cases W1
  ·unfold pDig; rw [W1]; rfl
  ·unfold pDig; rw [W1]; rfl
def flag1 (k s : ByteArray) : Got Bool := if byteAt k 0 = 0 then .ok (false, s) else if byteAt k 0 = 1 then .ok (true, s) else .error 2
theorem pFlag_eq : pFlag = pBind (pTake 1) flag1 := by
 funext s; unfold pFlag pBind flag1; cases pTake 1 s <;> rfl
def cfg_rflag : Cfg := { con := [(243, 0), (244, 0)], lents := [(243, [(0, 122)]), (244, [(0, 122)])], mine := [(0, 122)] }
def vcd_rflag : { v : VC // vcOf Tryz.prog cfg_rflag 155 = v } := by refine ⟨?v, ?h⟩; rotate_left; conv => lhs; reduce
theorem vce_rflag : vcOf Tryz.prog cfg_rflag 155 = vcd_rflag.1 := vcd_rflag.2
theorem rflag_ok : KeepsL Tryz.prog 155 RFlagS cfg_rflag.mine := by
 refine keepsL_v Tryz.func155 cfg_rflag vce_rflag [.p, .s, .i, .i] RFlagS [(243, RTakeS), (244, RBadS)] ⟨rtake_ok, rbad_ok, trivial⟩ (by kernel_rfl) (fun _ _ _ h => h) ?_; intro x0 b a e w hp; refine ⟨[], vc_use ?Q ?h ?g⟩
 case h => intro O C s I b; conv => lhs; reduce
 dsimp only [std]; simp only [ctrOf, invOf, List.lookup, Nat.reduceBEq, Option.getD_some, Int.reduceOfNat, Int.reduceNegSucc]; have ok0 : okR b a := hp; intro x5; refine ⟨fun _ _ => ⟨ok0, by decide, by decide⟩, fun t b1 a1 e1 ⟨t1, a1', e1', ho, ok1, W1, sz, em⟩ => ?_⟩; simp only [List.cons.injEq, U.s.injEq, U.i.injEq, and_true] at ho; obtain ⟨rfl, rfl, rfl, rfl⟩ := ho; have B1 : (Rel b1 a e).bind pFlag = (Rel b1 a1 e1).bind (flag1 t) := by rw [pFlag_eq]; exact bind_step W1
 have fin : ∀ v e', (Rel b1 a e).bind pFlag = (Rel b1 a1 e').map (fun s => (v, s)) → RFlagS.post [.p x0, .s b1, .i a, .i e] [.b v, .s b1, .i a1, .i e'] ∧ ∀ (w : World) (A : Prop), A → RFlagS.fact [.p x0, .s b1, .i a, .i e] [.b v, .s b1, .i a1, .i e'] w := fun v e' h => ⟨⟨v, a1, e', rfl, ok1, h, trivial⟩, fun _ _ _ => trivial⟩
 refine ⟨fun h => ?_, fun h => ?_⟩
 ·obtain ⟨f1, f2⟩ := fin false e1 (B1.trans (by rw [err_reads h, Rel.bad h]; rfl)); exact ⟨f1, fun w hw => f2 w _ hw⟩
 subst h; have z1 := take_size W1 (Rel.zero rfl) (by decide); have hb : byteAt t 0 = (t.data.toList.getD 0 0).toNat := rfl; rw [Rel.zero rfl] at B1; simp only [RBadS, rbadO]; refine ⟨by omega, fun h5 => ?_, fun h5 => ?_⟩
 ·refine fun x10 => ⟨fun _ _ => trivial, fun b2 a2 e2 ho => ?_⟩
  simp only [if_true, List.cons.injEq, U.s.injEq, U.i.injEq, and_true] at ho; obtain ⟨q1, q2, q3⟩ := ho; rw [q1, q2, q3]; have hv : (((t.data.toList.getD 0 0).toNat : Int) == 1) = false := by simp only [beq_eq_false_iff_ne]; omega
  obtain ⟨f1, f2⟩ := fin (((t.data.toList.getD 0 0).toNat : Int) == 1) 2 (B1.trans (by show flag1 t _ = _; unfold flag1; rw [if_neg (by omega), if_neg (by omega), Rel.bad (by decide)]; rfl)); exact ⟨f1, fun w hw => f2 w _ hw⟩
 ·obtain ⟨f1, f2⟩ := fin (((t.data.toList.getD 0 0).toNat : Int) == 1) 0 (B1.trans (by
   show flag1 t _ = _; unfold flag1; rw [Rel.zero rfl]
   by_cases h0 : byteAt t 0 = 0
   ·rw [if_pos h0]; have hv : (((t.data.toList.getD 0 0).toNat : Int) == 1) = false := by simp only [beq_eq_false_iff_ne]; omega
    rw [hv]; rfl
   ·rw [if_neg h0, if_pos (by omega)]; have hv : (((t.data.toList.getD 0 0).toNat : Int) == 1) = true := by simp only [beq_iff_eq]; omega
    rw [hv]; rfl))
  exact ⟨f1, fun w hw => f2 w _ hw⟩
def RTextS : Ctr where
 pre us _ := match us with
  | [.p _, .i n, .s b, .i a, .i _] => okR b a ∧ 0 ≤ n ∧ n ≤ 1000000
  | _ => False
 post us os := match us with
  | [.p _, .i m, .s b, .i a, .i e] => ∃ t a' e', os = [.s t, .s b, .i a', .i e'] ∧ okR b a' ∧ Reads (Rel b a e) (pText m) (Rel b a' e') t ∧ (t.size : Int) ≤ m
  | _ => False
 fact _ _ _ := True
def cfg_rtext : Cfg := { con := [(147, 0), (243, 0)], lents := [(147, [(0, 122)]), (243, [(0, 122)])], mine := [(0, 122)] }
def vcd_rtext : { v : VC // vcOf Tryz.prog cfg_rtext 177 = v } := by refine ⟨?v, ?h⟩; rotate_left; conv => lhs; reduce
theorem vce_rtext : vcOf Tryz.prog cfg_rtext 177 = vcd_rtext.1 := vcd_rtext.2
theorem rtext_ok : KeepsL Tryz.prog 177 RTextS cfg_rtext.mine := by
 refine keepsL_v Tryz.func177 cfg_rtext vce_rtext [.p, .i, .s, .i, .i] RTextS [(147, RUpToS), (243, RTakeS)] ⟨rupto_ok, rtake_ok, trivial⟩ (by kernel_rfl) (fun _ _ _ h => h) ?_; intro x0 m b a e w hp; refine ⟨[], vc_use ?Q ?h ?g⟩
 case h => intro O C s I b; conv => lhs; reduce
 dsimp only [std]; simp only [ctrOf, invOf, List.lookup, Nat.reduceBEq, Option.getD_some, Int.reduceOfNat, Int.reduceNegSucc]; obtain ⟨ok0, hm0, hm1⟩ : okR b a ∧ 0 ≤ m ∧ m ≤ 1000000 := hp; intro x5; refine ⟨fun _ _ => ⟨ok0, hm0⟩, fun n b1 a1 e1 ⟨n1, a1', e1', ho, ok1, W1, lo, hi⟩ => ?_⟩; simp only [List.cons.injEq, U.s.injEq, U.i.injEq, and_true] at ho; obtain ⟨rfl, rfl, rfl, rfl⟩ := ho; intro x6; refine ⟨fun _ _ => ⟨ok1, lo, by omega⟩, fun t b2 a2 e2 ⟨t2, a2', e2', ho, ok2, W2, sz, em⟩ => ?_⟩; simp only [List.cons.injEq, U.s.injEq, U.i.injEq, and_true] at ho; obtain ⟨rfl, rfl, rfl, rfl⟩ := ho; refine ⟨⟨_, _, _, rfl, ok2, ?_, by omega⟩, fun _ _ => trivial⟩; unfold Reads at W2 ⊢
 exact (bind_step W1).trans W2
def pTx : ByteArray → Got TxD := pBind pNum fun k => pBind pNum fun f => pBind pNum fun n => pBind pNum fun p => pBind pNum fun l => pBind pNum fun t => pBind pNum fun a => pBind (pText 2048) fun text => pBind (pList 8 pNum) fun args => pBind (pList 1 pSight) fun sights => pBind (pList 1 pProof) fun proofs => fun z => .ok (⟨k, f, n, p, l, t, a, text.data.toList, args, none, 0, sights, none, 0, proofs, none, 0⟩, z)
theorem good_tx : Good pTx := by unfold pTx; exact good_bind good_num fun _ => good_bind good_num fun _ => good_bind good_num fun _ => good_bind good_num fun _ => good_bind good_num fun _ => good_bind good_num fun _ => good_bind good_num fun _ => good_bind (good_text _) fun _ => good_bind (good_list _ good_num) fun _ => good_bind (good_list _ good_sight) fun _ => good_bind (good_list _ good_proof) fun _ => good_ok _
def txR : Rdr TxD := { us := fun x => [.i x.k, .i x.f, .i x.n, .i x.p, .i x.l, .i x.t, .i x.a, .s (bs x.text), .p x.aa, .n x.args.length, .n x.ac, .p x.sa, .n x.sights.length, .n x.sc, .p x.pa, .n x.proofs.length, .n x.pc], cells := fun x => x.cells, strip := fun x => { x with aa := none, ac := 0, sights := x.sights.map sightR.strip, sa := none, sc := 0, proofs := x.proofs.map proofR.strip, pa := none, pc := 0 }, held := fun w x => x.held w w.heap.size, p := pTx }
def cfg_ptx : Cfg := { con := [(58, 0), (173, 0), (161, 0), (180, 0), (182, 0)], lents := [(58, [(0, 208)]), (173, [(0, 208)]), (161, [(0, 208)]), (180, [(0, 208)]), (182, [(0, 208)])], mine := [(0, 208)], pans := [58, 173, 161, 180, 182], unroll := [(2, 8)] }
def vcd_ptx : { v : VC // vcOf Tryz.prog cfg_ptx 102 = v } := by refine ⟨?v, ?h⟩; rotate_left; conv => lhs; reduce
theorem vce_ptx : vcOf Tryz.prog cfg_ptx 102 = vcd_ptx.1 := vcd_ptx.2
set_option linter.unusedVariables false in
theorem ptx_ok : KeepsL Tryz.prog 102 (elemC txR) cfg_ptx.mine := by
 refine keepsL_v Tryz.func102 cfg_ptx vce_ptx [.p, .s] (elemC txR) [(58, PNumS), (173, PTextS), (161, (listC numR 58 1)), (180, (listC sightR 181 16)), (182, (listC proofR 96 4))] ⟨pnum_ok, ptext_ok, getsnum_ok, getssight_ok, getsproof_ok, trivial⟩ (by kernel_rfl) (fun _ _ _ h => h) ?_; intro x0 s0 w hp; refine ⟨[], vc_use ?Q ?h ?g⟩
 case h => intro O C s I b; conv => lhs; reduce
 dsimp only [std]; simp only [ctrOf, invOf, List.lookup, Nat.reduceBEq, Option.getD_some, Int.reduceOfNat, Int.reduceNegSucc]; have hs0 : Small s0 := hp; have bad : ∀ e, pTx s0 = .error e → (elemC txR).pan [.p x0, .s s0] (stopCh e) := fun e h => ⟨e, h, rfl⟩
 simp only [rdC, PNumS, numF, PTextS, rtextF]; intro a_k; refine ⟨fun ch ⟨e, g, hc⟩ => hc ▸ bad e (by simp only [pTx, pBind, gI_err g]), fun _ _ => hs0, fun k s1 g_k => ?_⟩; replace g_k := gI_ok g_k; have hs1 : Small s1 := good_num _ _ _ g_k hs0; refine ⟨⟨by decide, by decide⟩, ?_⟩; intro a_f; refine ⟨fun ch ⟨e, g, hc⟩ => hc ▸ bad e (by simp only [pTx, pBind, g_k, gI_err g]), fun _ _ => hs1, fun f s2 g_f => ?_⟩; replace g_f := gI_ok g_f; have hs2 : Small s2 := good_num _ _ _ g_f hs1; refine ⟨⟨by decide, by decide⟩, ?_⟩; intro a_n; refine ⟨fun ch ⟨e, g, hc⟩ => hc ▸ bad e (by simp only [pTx, pBind, g_k, g_f, gI_err g]), fun _ _ => hs2, fun n s3 g_n => ?_⟩; replace g_n := gI_ok g_n; have hs3 : Small s3 := good_num _ _ _ g_n hs2; refine ⟨⟨by decide, by decide⟩, ?_⟩; intro a_p; refine ⟨fun ch ⟨e, g, hc⟩ => hc ▸ bad e (by simp only [pTx, pBind, g_k, g_f, g_n, gI_err g]), fun _ _ => hs3, fun p s4 g_p => ?_⟩; replace g_p := gI_ok g_p; have hs4 : Small s4 := good_num _ _ _ g_p hs3; refine ⟨⟨by decide, by decide⟩, ?_⟩; intro a_l; refine ⟨fun ch ⟨e, g, hc⟩ => hc ▸ bad e (by simp only [pTx, pBind, g_k, g_f, g_n, g_p, gI_err g]), fun _ _ => hs4, fun l s5 g_l => ?_⟩; replace g_l := gI_ok g_l; have hs5 : Small s5 := good_num _ _ _ g_l hs4; refine ⟨⟨by decide, by decide⟩, ?_⟩; intro a_t; refine ⟨fun ch ⟨e, g, hc⟩ => hc ▸ bad e (by simp only [pTx, pBind, g_k, g_f, g_n, g_p, g_l, gI_err g]), fun _ _ => hs5, fun t s6 g_t => ?_⟩; replace g_t := gI_ok g_t; have hs6 : Small s6 := good_num _ _ _ g_t hs5; refine ⟨⟨by decide, by decide⟩, ?_⟩; intro a_a; refine ⟨fun ch ⟨e, g, hc⟩ => hc ▸ bad e (by simp only [pTx, pBind, g_k, g_f, g_n, g_p, g_l, g_t, gI_err g]), fun _ _ => hs6, fun a s7 g_a => ?_⟩; replace g_a := gI_ok g_a; have hs7 : Small s7 := good_num _ _ _ g_a hs6; refine ⟨⟨by decide, by decide⟩, ?_⟩; intro a_text; refine ⟨fun ch ⟨e, g, hc⟩ => hc ▸ bad e (by simp only [pTx, pBind, g_k, g_f, g_n, g_p, g_l, g_t, g_a, gS_err g]), fun _ _ => ⟨hs7, by decide⟩, fun t_text s8 g_text => ?_⟩
 replace g_text := gS_ok g_text; have hs8 : Small s8 := good_text _ _ _ _ g_text hs7; intro a_args; refine ⟨fun ch ⟨e, g, hc⟩ => hc ▸ bad e (by simp only [pTx, pBind, g_k, g_f, g_n, g_p, g_l, g_t, g_a, g_text, show pList 8 pNum s8 = _ from g]), fun _ _ => ⟨hs8, rfl, by decide⟩, fun a1_args n_args c1_args s9 ⟨y_args, g_args, _⟩ => ?_⟩; replace g_args : pList 8 pNum s8 = .ok (y_args, s9) := g_args; have hs9 : Small s9 := good_list _ good_num _ _ _ g_args hs8; intro a_sights; refine ⟨fun ch ⟨e, g, hc⟩ => hc ▸ bad e (by simp only [pTx, pBind, g_k, g_f, g_n, g_p, g_l, g_t, g_a, g_text, g_args, show pList 1 pSight s9 = _ from g]), fun _ _ => ⟨hs9, rfl, by decide⟩, fun a1_sights n_sights c1_sights s10 ⟨y_sights, g_sights, _⟩ => ?_⟩; replace g_sights : pList 1 pSight s9 = .ok (y_sights, s10) := g_sights; have hs10 : Small s10 := good_list _ good_sight _ _ _ g_sights hs9; intro a_proofs; refine ⟨fun ch ⟨e, g, hc⟩ => hc ▸ bad e (by simp only [pTx, pBind, g_k, g_f, g_n, g_p, g_l, g_t, g_a, g_text, g_args, g_sights, show pList 1 pProof s10 = _ from g]), fun _ _ => ⟨hs10, rfl, by decide⟩, fun a1_proofs n_proofs c1_proofs s11 ⟨y_proofs, g_proofs, _⟩ => ?_⟩; replace g_proofs : pList 1 pProof s10 = .ok (y_proofs, s11) := g_proofs; have hs11 : Small s11 := good_list _ good_proof _ _ _ g_proofs hs10; refine ⟨⟨⟨k, f, n, p, l, t, a, t_text.data.toList, y_args, none, 0, y_sights, none, 0, y_proofs, none, 0⟩, s11, by simp only [txR, pTx, pBind, g_k, g_f, g_n, g_p, g_l, g_t, g_a, g_text, g_args, g_sights, g_proofs], rfl⟩, fun w hw => ?_⟩; obtain ⟨⟨⟨⟨⟨⟨⟨⟨⟨⟨⟨_, _⟩, _⟩, _⟩, _⟩, _⟩, _⟩, _⟩, _⟩, ⟨l_args, q_args, m_args, r_args, h_args⟩⟩, ⟨l_sights, q_sights, m_sights, r_sights, h_sights⟩⟩, ⟨l_proofs, q_proofs, m_proofs, r_proofs, h_proofs⟩⟩ := hw; subst m_args; replace q_args : pList 8 pNum _ = .ok (_, _) := q_args; subst m_sights; replace q_sights : pList 1 pSight _ = .ok (_, _) := q_sights; subst m_proofs; replace q_proofs : pList 1 pProof _ = .ok (_, _) := q_proofs
 have b_text := bs_back t_text; exact ⟨⟨k, f, n, p, l, t, a, t_text.data.toList, l_args, a1_args, c1_args, l_sights, a1_sights, c1_sights, l_proofs, a1_proofs, c1_proofs⟩, s11, by simp only [txR, b_text]; rfl, by simp only [txR, pTx, pBind, g_k, g_f, g_n, g_p, g_l, g_t, g_a, g_text, q_args, q_sights, q_proofs]; first | done | rfl | simp [numR, proofR, sightR], ⟨ints_of r_args, r_sights, r_proofs, ⟨short_of q_args, short_of q_sights, short_of q_proofs⟩, h_sights, h_proofs⟩⟩
def cfg_gtx : Cfg := { con := [(138, 0), (102, 0)], loops := [(4, { slots := [8, 13], blks := [0], rows := [8], extra := [.var 5, .var 6] })], rows := [(8, 94)], lents := [(138, [(0, 208)]), (102, [(0, 208)])], mine := [(0, 208)], pans := [138, 102], fns := [(18, 102)] }
def vcd_gtx : { v : VC // vcOf Tryz.prog cfg_gtx 247 = v } := by refine ⟨?v, ?h⟩; rotate_left; conv => lhs; reduce
theorem vce_gtx : vcOf Tryz.prog cfg_gtx 247 = vcd_gtx.1 := vcd_gtx.2
theorem getstx_ok : KeepsL Tryz.prog 247 (listC txR 102 11) cfg_gtx.mine := by
 refine keepsL_v Tryz.func247 cfg_gtx vce_gtx [.p, .i, .v, .s] (listC txR 102 11) [(138, PUpToS), (102, elemC txR)] ⟨pupto_ok, ptx_ok, trivial⟩ (by kernel_rfl) (fun _ _ _ h => h) ?_; intro x0 x1 x2 x3 w hp; refine ⟨[(4, listInv txR)], vc_use ?Q ?h ?g⟩
 case h => intro O C s I b; conv => lhs; reduce
 dsimp only [std]; simp only [ctrOf, invOf, List.lookup, Nat.reduceBEq, Option.getD_some, Int.reduceOfNat, Int.reduceNegSucc]; obtain ⟨hs, rfl, hm⟩ : Small x3 ∧ x2 = .func (.func 102) #[] #[] ∧ x1 ≤ 1000000 := hp; simp only [PUpToS, rdC, upToF]; intro x4; refine ⟨fun ch ⟨e, h1, h2⟩ => h2 ▸ list_pan1 (gI_err h1) _, fun _ _ => hs, fun x5 x6 h1 => ?_⟩; have h1 := gI_ok h1; obtain ⟨i1, i2⟩ := list_init (R := txR) h1 hs hm; refine ⟨i1, fun w _ => i2 w, fun m xs k sk hi => ⟨fun hk => ⟨trivial, fun a => ⟨fun ch ⟨e, g1, g2⟩ => g2 ▸ list_pan2 h1 hi hk g1 _, fun _ _ => hi.2.2.2.2.1, fun l0 l1 l2 l3 l4 l5 l6 l7 l8 l9 l10 l11 l12 l13 l14 l15 l16 s' ⟨y, z, g, gl⟩ => ?_⟩⟩, fun hk A c => ?_⟩⟩
 ·obtain rfl : s' = z := by simpa using gl
  obtain ⟨n1, n2, n3, n4, n5⟩ := list_next (R := txR) hi hk g (good_tx _ _ _ g hi.2.2.2.2.1) 144 (by decide) _; refine ⟨n1, n2, n3, n4, fun w ⟨⟨_, f⟩, ⟨x, z, e1, e2, e3⟩⟩ => ?_, n5 _, trivial⟩; cases e1; obtain ⟨l, q1, q2, q3⟩ := list_step (R := txR) hi.1 f e2 e3; exact ⟨l, q1, (show xs ++ _ = _ from by rw [← q2]; exact congrArg (xs ++ ·) (by kernel_rfl)), q3⟩
 ·obtain ⟨f1, f2⟩ := list_fin (R := txR) (A := A) (c := c) (a := x0) (fg := 102) (size := 11) h1 hi hk (.func (.func 102) #[] #[]); exact ⟨f1, fun w ⟨⟨_, f⟩, o⟩ => f2 f o⟩
def pBlock : ByteArray → Got BlockD := pBind pHeader fun header => pBind (pList 16 pTx) fun txs => pBind (pList 4 pGuilt) fun guilts => fun z => .ok (⟨header, txs, none, 0, guilts, none, 0⟩, z)
theorem good_block : Good pBlock := by unfold pBlock; exact good_bind good_header fun _ => good_bind (good_list _ good_tx) fun _ => good_bind (good_list _ good_guilt) fun _ => good_ok _
def blockR : Rdr BlockD := { us := fun x => [.i x.header.c, .i x.header.h, .i x.header.p, .i x.header.t, .i x.header.g, .i x.header.s, .i x.header.r, .i x.header.b, .i x.header.o, .p x.ta, .n x.txs.length, .n x.tc, .p x.ga, .n x.guilts.length, .n x.gc], cells := fun x => x.cells, strip := fun x => { x with txs := x.txs.map txR.strip, ta := none, tc := 0, ga := none, gc := 0 }, held := fun w x => x.held w w.heap.size, p := pBlock }
def cfg_pblock : Cfg := { con := [(90, 0), (247, 0), (248, 0)], lents := [(90, [(0, 208)]), (247, [(0, 208)]), (248, [(0, 208)])], mine := [(0, 208)], pans := [90, 247, 248] }
def vcd_pblock : { v : VC // vcOf Tryz.prog cfg_pblock 192 = v } := by refine ⟨?v, ?h⟩; rotate_left; conv => lhs; reduce
theorem vce_pblock : vcOf Tryz.prog cfg_pblock 192 = vcd_pblock.1 := vcd_pblock.2
set_option linter.unusedVariables false in
theorem pblock_ok : KeepsL Tryz.prog 192 (elemC blockR) cfg_pblock.mine := by
 refine keepsL_v Tryz.func192 cfg_pblock vce_pblock [.p, .s] (elemC blockR) [(90, (elemC headerR)), (247, (listC txR 102 11)), (248, (listC guiltR 108 12))] ⟨pheader_ok, getstx_ok, getsguilt_ok, trivial⟩ (by kernel_rfl) (fun _ _ _ h => h) ?_; intro x0 s0 w hp; refine ⟨[], vc_use ?Q ?h ?g⟩
 case h => intro O C s I b; conv => lhs; reduce
 dsimp only [std]; simp only [ctrOf, invOf, List.lookup, Nat.reduceBEq, Option.getD_some, Int.reduceOfNat, Int.reduceNegSucc]; have hs0 : Small s0 := hp; have bad : ∀ e, pBlock s0 = .error e → (elemC blockR).pan [.p x0, .s s0] (stopCh e) := fun e h => ⟨e, h, rfl⟩
 intro a_header; refine ⟨fun ch ⟨e, g, hc⟩ => hc ▸ bad e (by simp only [pBlock, pBind, show pHeader s0 = _ from g]), fun _ _ => hs0, fun l_header_0 l_header_1 l_header_2 l_header_3 l_header_4 l_header_5 l_header_6 l_header_7 l_header_8 s1 ⟨y_header, z_header, g_header, gl⟩ => ?_⟩; obtain rfl : s1 = z_header := by simpa using gl
 replace g_header : pHeader s0 = .ok (y_header, s1) := g_header; have hs1 : Small s1 := good_header _ _ _ g_header hs0; intro a_txs; refine ⟨fun ch ⟨e, g, hc⟩ => hc ▸ bad e (by simp only [pBlock, pBind, g_header, show pList 16 pTx s1 = _ from g]), fun _ _ => ⟨hs1, rfl, by decide⟩, fun a1_txs n_txs c1_txs s2 ⟨y_txs, g_txs, _⟩ => ?_⟩; replace g_txs : pList 16 pTx s1 = .ok (y_txs, s2) := g_txs; have hs2 : Small s2 := good_list _ good_tx _ _ _ g_txs hs1; intro a_guilts; refine ⟨fun ch ⟨e, g, hc⟩ => hc ▸ bad e (by simp only [pBlock, pBind, g_header, g_txs, show pList 4 pGuilt s2 = _ from g]), fun _ _ => ⟨hs2, rfl, by decide⟩, fun a1_guilts n_guilts c1_guilts s3 ⟨y_guilts, g_guilts, _⟩ => ?_⟩; replace g_guilts : pList 4 pGuilt s2 = .ok (y_guilts, s3) := g_guilts; have hs3 : Small s3 := good_list _ good_guilt _ _ _ g_guilts hs2; refine ⟨⟨⟨y_header, y_txs, none, 0, y_guilts, none, 0⟩, s3, by simp only [blockR, pBlock, pBind, g_header, g_txs, g_guilts], rfl⟩, fun w hw => ?_⟩; obtain ⟨⟨⟨_, ⟨x_header, w_header, e_header, p_header, h_header⟩⟩, ⟨l_txs, q_txs, m_txs, r_txs, h_txs⟩⟩, ⟨l_guilts, q_guilts, m_guilts, r_guilts, h_guilts⟩⟩ := hw; cases e_header; replace p_header : pHeader _ = .ok (_, _) := p_header; subst m_txs; replace q_txs : pList 16 pTx _ = .ok (_, _) := q_txs; subst m_guilts; replace q_guilts : pList 4 pGuilt _ = .ok (_, _) := q_guilts; exact ⟨⟨x_header, l_txs, a1_txs, c1_txs, l_guilts, a1_guilts, c1_guilts⟩, s3, rfl, by simp only [blockR, pBlock, pBind, p_header, q_txs, q_guilts]; first | done | rfl | simp [guiltR, headerR, txR], ⟨h_header, r_txs, r_guilts, ⟨short_of q_txs, short_of q_guilts⟩, h_txs, h_guilts⟩⟩
def pMotion : ByteArray → Got MotionD := pBind pNum fun r => pBind pNum fun f => pBind pBlock fun block => pBind (pList 1 pCert) fun basis => fun z => .ok (⟨r, f, block, basis, none, 0⟩, z)
def motionR : Rdr MotionD := { us := fun x => [.i x.r, .i x.f, .i x.block.header.c, .i x.block.header.h, .i x.block.header.p, .i x.block.header.t, .i x.block.header.g, .i x.block.header.s, .i x.block.header.r, .i x.block.header.b, .i x.block.header.o, .p x.block.ta, .n x.block.txs.length, .n x.block.tc, .p x.block.ga, .n x.block.guilts.length, .n x.block.gc, .p x.ba, .n x.basis.length, .n x.bc], cells := fun x => x.cells, strip := fun x => { x with block := blockR.strip x.block, basis := x.basis.map certR.strip, ba := none, bc := 0 }, held := fun w x => x.held w w.heap.size, p := pMotion }
def cfg_pmotion : Cfg := { con := [(58, 0), (192, 0), (270, 0)], lents := [(58, [(0, 208)]), (192, [(0, 208)]), (270, [(0, 208)])], mine := [(0, 208)], pans := [58, 192, 270] }
def vcd_pmotion : { v : VC // vcOf Tryz.prog cfg_pmotion 254 = v } := by refine ⟨?v, ?h⟩; rotate_left; conv => lhs; reduce
theorem vce_pmotion : vcOf Tryz.prog cfg_pmotion 254 = vcd_pmotion.1 := vcd_pmotion.2
set_option linter.unusedVariables false in
theorem pmotion_ok : KeepsL Tryz.prog 254 (elemC motionR) cfg_pmotion.mine := by
 refine keepsL_v Tryz.func254 cfg_pmotion vce_pmotion [.p, .s] (elemC motionR) [(58, PNumS), (192, (elemC blockR)), (270, (listC certR 78 6))] ⟨pnum_ok, pblock_ok, getscert_ok, trivial⟩ (by kernel_rfl) (fun _ _ _ h => h) ?_; intro x0 s0 w hp; refine ⟨[], vc_use ?Q ?h ?g⟩
 case h => intro O C s I b; conv => lhs; reduce
 dsimp only [std]; simp only [ctrOf, invOf, List.lookup, Nat.reduceBEq, Option.getD_some, Int.reduceOfNat, Int.reduceNegSucc]; have hs0 : Small s0 := hp; have bad : ∀ e, pMotion s0 = .error e → (elemC motionR).pan [.p x0, .s s0] (stopCh e) := fun e h => ⟨e, h, rfl⟩
 simp only [rdC, PNumS, numF]; intro a_r; refine ⟨fun ch ⟨e, g, hc⟩ => hc ▸ bad e (by simp only [pMotion, pBind, gI_err g]), fun _ _ => hs0, fun r s1 g_r => ?_⟩; replace g_r := gI_ok g_r; have hs1 : Small s1 := good_num _ _ _ g_r hs0; intro a_f; refine ⟨fun ch ⟨e, g, hc⟩ => hc ▸ bad e (by simp only [pMotion, pBind, g_r, gI_err g]), fun _ _ => hs1, fun f s2 g_f => ?_⟩; replace g_f := gI_ok g_f; have hs2 : Small s2 := good_num _ _ _ g_f hs1; intro a_block; refine ⟨fun ch ⟨e, g, hc⟩ => hc ▸ bad e (by simp only [pMotion, pBind, g_r, g_f, show pBlock s2 = _ from g]), fun _ _ => hs2, fun l_block_0 l_block_1 l_block_2 l_block_3 l_block_4 l_block_5 l_block_6 l_block_7 l_block_8 l_block_9 l_block_10 l_block_11 l_block_12 l_block_13 l_block_14 s3 ⟨y_block, z_block, g_block, gl⟩ => ?_⟩; obtain rfl : s3 = z_block := by simpa using gl
 replace g_block : pBlock s2 = .ok (y_block, s3) := g_block; have hs3 : Small s3 := good_block _ _ _ g_block hs2; intro a_basis; refine ⟨fun ch ⟨e, g, hc⟩ => hc ▸ bad e (by simp only [pMotion, pBind, g_r, g_f, g_block, show pList 1 pCert s3 = _ from g]), fun _ _ => ⟨hs3, rfl, by decide⟩, fun a1_basis n_basis c1_basis s4 ⟨y_basis, g_basis, _⟩ => ?_⟩; replace g_basis : pList 1 pCert s3 = .ok (y_basis, s4) := g_basis; have hs4 : Small s4 := good_list _ good_cert _ _ _ g_basis hs3; refine ⟨⟨⟨r, f, y_block, y_basis, none, 0⟩, s4, by simp only [motionR, pMotion, pBind, g_r, g_f, g_block, g_basis], rfl⟩, fun w hw => ?_⟩; obtain ⟨⟨⟨⟨_, _⟩, _⟩, ⟨x_block, w_block, e_block, p_block, h_block⟩⟩, ⟨l_basis, q_basis, m_basis, r_basis, h_basis⟩⟩ := hw; cases e_block; replace p_block : pBlock _ = .ok (_, _) := p_block; subst m_basis; replace q_basis : pList 1 pCert _ = .ok (_, _) := q_basis; exact ⟨⟨r, f, x_block, l_basis, a1_basis, c1_basis⟩, s4, rfl, by simp only [motionR, pMotion, pBind, g_r, g_f, p_block, q_basis]; first | done | rfl | simp [blockR, certR], ⟨h_block, r_basis, short_of q_basis, h_basis⟩⟩
def pKnown : ByteArray → Got KnownD := pBind pCert fun cert => pBind pBlock fun block => fun z => .ok (⟨cert, block⟩, z)
def knownR : Rdr KnownD := { us := fun x => [.i x.cert.h, .i x.cert.r, .i x.cert.s, .b x.cert.has, .i x.cert.b, .p x.cert.fa, .n x.cert.froms.length, .n x.cert.fc, .i x.block.header.c, .i x.block.header.h, .i x.block.header.p, .i x.block.header.t, .i x.block.header.g, .i x.block.header.s, .i x.block.header.r, .i x.block.header.b, .i x.block.header.o, .p x.block.ta, .n x.block.txs.length, .n x.block.tc, .p x.block.ga, .n x.block.guilts.length, .n x.block.gc], cells := fun x => x.cells, strip := fun x => { x with cert := certR.strip x.cert, block := blockR.strip x.block }, held := fun w x => x.held w w.heap.size, p := pKnown }
def cfg_pknown : Cfg := { con := [(78, 0), (192, 0)], lents := [(78, [(0, 208)]), (192, [(0, 208)])], mine := [(0, 208)], pans := [78, 192] }
def vcd_pknown : { v : VC // vcOf Tryz.prog cfg_pknown 256 = v } := by refine ⟨?v, ?h⟩; rotate_left; conv => lhs; reduce
theorem vce_pknown : vcOf Tryz.prog cfg_pknown 256 = vcd_pknown.1 := vcd_pknown.2
set_option linter.unusedVariables false in
theorem pknown_ok : KeepsL Tryz.prog 256 (elemC knownR) cfg_pknown.mine := by
 refine keepsL_v Tryz.func256 cfg_pknown vce_pknown [.p, .s] (elemC knownR) [(78, (elemC certR)), (192, (elemC blockR))] ⟨pcert_ok, pblock_ok, trivial⟩ (by kernel_rfl) (fun _ _ _ h => h) ?_; intro x0 s0 w hp; refine ⟨[], vc_use ?Q ?h ?g⟩
 case h => intro O C s I b; conv => lhs; reduce
 dsimp only [std]; simp only [ctrOf, invOf, List.lookup, Nat.reduceBEq, Option.getD_some, Int.reduceOfNat, Int.reduceNegSucc]; have hs0 : Small s0 := hp; have bad : ∀ e, pKnown s0 = .error e → (elemC knownR).pan [.p x0, .s s0] (stopCh e) := fun e h => ⟨e, h, rfl⟩
 intro a_cert; refine ⟨fun ch ⟨e, g, hc⟩ => hc ▸ bad e (by simp only [pKnown, pBind, show pCert s0 = _ from g]), fun _ _ => hs0, fun l_cert_0 l_cert_1 l_cert_2 l_cert_3 l_cert_4 l_cert_5 l_cert_6 l_cert_7 s1 ⟨y_cert, z_cert, g_cert, gl⟩ => ?_⟩; obtain rfl : s1 = z_cert := by simpa using gl
 replace g_cert : pCert s0 = .ok (y_cert, s1) := g_cert; have hs1 : Small s1 := good_cert _ _ _ g_cert hs0; intro a_block; refine ⟨fun ch ⟨e, g, hc⟩ => hc ▸ bad e (by simp only [pKnown, pBind, g_cert, show pBlock s1 = _ from g]), fun _ _ => hs1, fun l_block_0 l_block_1 l_block_2 l_block_3 l_block_4 l_block_5 l_block_6 l_block_7 l_block_8 l_block_9 l_block_10 l_block_11 l_block_12 l_block_13 l_block_14 s2 ⟨y_block, z_block, g_block, gl⟩ => ?_⟩; obtain rfl : s2 = z_block := by simpa using gl
 replace g_block : pBlock s1 = .ok (y_block, s2) := g_block; have hs2 : Small s2 := good_block _ _ _ g_block hs1; refine ⟨⟨⟨y_cert, y_block⟩, s2, by simp only [knownR, pKnown, pBind, g_cert, g_block], rfl⟩, fun w hw => ?_⟩; obtain ⟨⟨_, ⟨x_cert, w_cert, e_cert, p_cert, h_cert⟩⟩, ⟨x_block, w_block, e_block, p_block, h_block⟩⟩ := hw; cases e_cert; replace p_cert : pCert _ = .ok (_, _) := p_cert; cases e_block; replace p_block : pBlock _ = .ok (_, _) := p_block; exact ⟨⟨x_cert, x_block⟩, s2, rfl, by simp only [knownR, pKnown, pBind, p_cert, p_block]; first | done | rfl | simp [blockR, certR], ⟨h_cert, h_block⟩⟩
def voteZ : VoteD := ⟨0, 0, 0, false, 0, 0⟩
def headerZ : HeaderD := ⟨0, 0, 0, 0, 0, 0, 0, 0, 0⟩
def blockZ : BlockD := ⟨headerZ, [], none, 0, [], none, 0⟩
def certZ : CertD := ⟨0, 0, 0, false, 0, [], none, 0⟩
def motionZ : MotionD := ⟨0, 0, blockZ, [], none, 0⟩
def knownZ : KnownD := ⟨certZ, blockZ⟩
theorem ml0 : (0 : Nat) ≤ maxLen := Nat.zero_le _
theorem voteZ_ok : voteZ.ok := by unfold VoteD.ok voteZ; decide
theorem headerZ_ok : headerZ.ok := by unfold HeaderD.ok headerZ; decide
theorem blockZ_held (w : World) (B : Nat) : blockZ.held w B := ⟨headerZ_ok, Rd.nil _ _ _ _, Rd.nil _ _ _ _, ⟨ml0, ml0⟩, fun _ h => (nomatch h), fun _ h => (nomatch h)⟩
theorem certZ_held (w : World) (B : Nat) : certZ.held w B := ⟨by unfold certZ; decide, Rd.nil _ _ _ _, ml0⟩
theorem motionZ_held (w : World) (B : Nat) : motionZ.held w B := ⟨blockZ_held w B, Rd.nil _ _ _ _, ml0, fun _ h => (nomatch h)⟩
theorem knownZ_held (w : World) (B : Nat) : knownZ.held w B := ⟨certZ_held w B, blockZ_held w B⟩
def pRecord : ByteArray → Got RecordD := pBind pNum fun k => if k = 1 then pBind pVote fun v => fun z => .ok (⟨k, v, motionZ, knownZ⟩, z) else if k = 2 then pBind pMotion fun m => fun z => .ok (⟨k, voteZ, m, knownZ⟩, z) else if k = 3 ∨ k = 4 then pBind pKnown fun n => fun z => .ok (⟨k, voteZ, motionZ, n⟩, z) else fun z => .ok (⟨k, voteZ, motionZ, knownZ⟩, z)
def recordR : Rdr RecordD := { us := fun x => [.i x.k, .i x.vote.h, .i x.vote.r, .i x.vote.s, .b x.vote.has, .i x.vote.b, .i x.vote.f, .i x.motion.r, .i x.motion.f, .i x.motion.block.header.c, .i x.motion.block.header.h, .i x.motion.block.header.p, .i x.motion.block.header.t, .i x.motion.block.header.g, .i x.motion.block.header.s, .i x.motion.block.header.r, .i x.motion.block.header.b, .i x.motion.block.header.o, .p x.motion.block.ta, .n x.motion.block.txs.length, .n x.motion.block.tc, .p x.motion.block.ga, .n x.motion.block.guilts.length, .n x.motion.block.gc, .p x.motion.ba, .n x.motion.basis.length, .n x.motion.bc, .i x.known.cert.h, .i x.known.cert.r, .i x.known.cert.s, .b x.known.cert.has, .i x.known.cert.b, .p x.known.cert.fa, .n x.known.cert.froms.length, .n x.known.cert.fc, .i x.known.block.header.c, .i x.known.block.header.h, .i x.known.block.header.p, .i x.known.block.header.t, .i x.known.block.header.g, .i x.known.block.header.s, .i x.known.block.header.r, .i x.known.block.header.b, .i x.known.block.header.o, .p x.known.block.ta, .n x.known.block.txs.length, .n x.known.block.tc, .p x.known.block.ga, .n x.known.block.guilts.length, .n x.known.block.gc], cells := fun x => x.cells, strip := fun x => { x with motion := motionR.strip x.motion, known := knownR.strip x.known }, held := fun w x => x.held w w.heap.size ∧ (x.k = 1 → x.motion = motionZ ∧ x.known = knownZ), p := pRecord }
def cfg_precord : Cfg := { con := [(58, 0), (72, 0), (254, 0), (256, 0)], lents := [(58, [(0, 208)]), (72, [(0, 208)]), (254, [(0, 208)]), (256, [(0, 208)])], mine := [(0, 208)], pans := [58, 72, 254, 256] }
def vcd_precord : { v : VC // vcOf Tryz.prog cfg_precord 204 = v } := by refine ⟨?v, ?h⟩; rotate_left; conv => lhs; reduce
theorem vce_precord : vcOf Tryz.prog cfg_precord 204 = vcd_precord.1 := vcd_precord.2
theorem precord_ok : KeepsL Tryz.prog 204 (elemC recordR) cfg_precord.mine := by
 refine keepsL_v Tryz.func204 cfg_precord vce_precord [.p, .s] (elemC recordR) [(58, PNumS), (72, (elemC voteR)), (254, (elemC motionR)), (256, (elemC knownR))] ⟨pnum_ok, pvote_ok, pmotion_ok, pknown_ok, trivial⟩ (by kernel_rfl) (fun _ _ _ h => h) ?_; intro x0 s0 w hp; refine ⟨[], vc_use ?Q ?h ?g⟩
 case h => intro O C s I b; conv => lhs; reduce
 dsimp only [std]; simp only [ctrOf, invOf, List.lookup, Nat.reduceBEq, Option.getD_some, Int.reduceOfNat, Int.reduceNegSucc]; have hs0 : Small s0 := hp; have bad : ∀ e, pRecord s0 = .error e → (elemC recordR).pan [.p x0, .s s0] (stopCh e) := fun e h => ⟨e, h, rfl⟩
 simp only [rdC, PNumS, numF]; intro a_k; refine ⟨fun ch ⟨e, g, hc⟩ => hc ▸ bad e (by simp only [pRecord, pBind, gI_err g]), fun _ _ => hs0, fun k s1 g_k => ?_⟩; replace g_k := gI_ok g_k; have hs1 : Small s1 := good_num _ _ _ g_k hs0; refine ⟨fun h1 => ?_, fun h1 => ⟨fun h2 => ?_, fun h2 => ⟨fun h3 => ?_, fun h3 => ⟨fun h4 => ?_, fun h4 => ?_⟩⟩⟩⟩
 ·intro a_vote; refine ⟨fun ch ⟨e, g, hc⟩ => hc ▸ bad e (by simp only [pRecord, pBind, g_k, if_pos h1, show pVote s1 = _ from g]), fun _ _ => hs1, fun l_0 l_1 l_2 l_3 l_4 l_5 s2 ⟨y, z, g, gl⟩ => ?_⟩; obtain rfl : s2 = z := by simpa using gl
  replace g : pVote s1 = .ok (y, s2) := g; refine ⟨⟨⟨k, y, motionZ, knownZ⟩, s2, by simp only [recordR, pRecord, pBind, g_k, if_pos h1, g], rfl⟩, fun w hw => ?_⟩; obtain ⟨⟨_, _⟩, ⟨x, z, e, p, h⟩⟩ := hw; cases e; replace p : pVote _ = .ok (_, _) := p; exact ⟨⟨k, x, motionZ, knownZ⟩, s2, rfl, by simp only [recordR, pRecord, pBind, g_k, if_pos h1, p]; first | done | rfl | simp [voteR], ⟨⟨h, motionZ_held _ _, knownZ_held _ _⟩, fun _ => ⟨rfl, rfl⟩⟩⟩
 ·intro a_motion; refine ⟨fun ch ⟨e, g, hc⟩ => hc ▸ bad e (by simp only [pRecord, pBind, g_k, if_neg h1, if_pos h2, show pMotion s1 = _ from g]), fun _ _ => hs1, fun l_0 l_1 l_2 l_3 l_4 l_5 l_6 l_7 l_8 l_9 l_10 l_11 l_12 l_13 l_14 l_15 l_16 l_17 l_18 l_19 s2 ⟨y, z, g, gl⟩ => ?_⟩; obtain rfl : s2 = z := by simpa using gl
  replace g : pMotion s1 = .ok (y, s2) := g; refine ⟨⟨⟨k, voteZ, y, knownZ⟩, s2, by simp only [recordR, pRecord, pBind, g_k, if_neg h1, if_pos h2, g], rfl⟩, fun w hw => ?_⟩; obtain ⟨⟨_, _⟩, ⟨x, z, e, p, h⟩⟩ := hw; cases e; replace p : pMotion _ = .ok (_, _) := p; exact ⟨⟨k, voteZ, x, knownZ⟩, s2, rfl, by simp only [recordR, pRecord, pBind, g_k, if_neg h1, if_pos h2, p]; first | done | rfl | simp [motionR], ⟨⟨voteZ_ok, h, knownZ_held _ _⟩, fun hk => absurd hk h1⟩⟩
 ·intro a_known; refine ⟨fun ch ⟨e, g, hc⟩ => hc ▸ bad e (by simp only [pRecord, pBind, g_k, if_neg h1, if_neg h2, if_pos (Or.inl h3 : k = 3 ∨ k = 4), show pKnown s1 = _ from g]), fun _ _ => hs1, fun l_0 l_1 l_2 l_3 l_4 l_5 l_6 l_7 l_8 l_9 l_10 l_11 l_12 l_13 l_14 l_15 l_16 l_17 l_18 l_19 l_20 l_21 l_22 s2 ⟨y, z, g, gl⟩ => ?_⟩; obtain rfl : s2 = z := by simpa using gl
  replace g : pKnown s1 = .ok (y, s2) := g; refine ⟨⟨⟨k, voteZ, motionZ, y⟩, s2, by simp only [recordR, pRecord, pBind, g_k, if_neg h1, if_neg h2, if_pos (Or.inl h3 : k = 3 ∨ k = 4), g], rfl⟩, fun w hw => ?_⟩; obtain ⟨⟨_, _⟩, ⟨x, z, e, p, h⟩⟩ := hw; cases e; replace p : pKnown _ = .ok (_, _) := p; exact ⟨⟨k, voteZ, motionZ, x⟩, s2, rfl, by simp only [recordR, pRecord, pBind, g_k, if_neg h1, if_neg h2, if_pos (Or.inl h3 : k = 3 ∨ k = 4), p]; first | done | rfl | simp [knownR], ⟨⟨voteZ_ok, motionZ_held _ _, h⟩, fun hk => absurd hk h1⟩⟩
 ·intro a_known; refine ⟨fun ch ⟨e, g, hc⟩ => hc ▸ bad e (by simp only [pRecord, pBind, g_k, if_neg h1, if_neg h2, if_pos (Or.inr h4 : k = 3 ∨ k = 4), show pKnown s1 = _ from g]), fun _ _ => hs1, fun l_0 l_1 l_2 l_3 l_4 l_5 l_6 l_7 l_8 l_9 l_10 l_11 l_12 l_13 l_14 l_15 l_16 l_17 l_18 l_19 l_20 l_21 l_22 s2 ⟨y, z, g, gl⟩ => ?_⟩; obtain rfl : s2 = z := by simpa using gl
  replace g : pKnown s1 = .ok (y, s2) := g; refine ⟨⟨⟨k, voteZ, motionZ, y⟩, s2, by simp only [recordR, pRecord, pBind, g_k, if_neg h1, if_neg h2, if_pos (Or.inr h4 : k = 3 ∨ k = 4), g], rfl⟩, fun w hw => ?_⟩; obtain ⟨⟨_, _⟩, ⟨x, z, e, p, h⟩⟩ := hw; cases e; replace p : pKnown _ = .ok (_, _) := p; exact ⟨⟨k, voteZ, motionZ, x⟩, s2, rfl, by simp only [recordR, pRecord, pBind, g_k, if_neg h1, if_neg h2, if_pos (Or.inr h4 : k = 3 ∨ k = 4), p]; first | done | rfl | simp [knownR], ⟨⟨voteZ_ok, motionZ_held _ _, h⟩, fun hk => absurd hk h1⟩⟩
 ·have h34 : ¬ (k = 3 ∨ k = 4) := fun h => h.elim h3 h4
  refine ⟨⟨⟨k, voteZ, motionZ, knownZ⟩, s1, by simp only [recordR, pRecord, pBind, g_k, if_neg h1, if_neg h2, if_neg h34], rfl⟩, fun w hw => ?_⟩; exact ⟨⟨k, voteZ, motionZ, knownZ⟩, s1, rfl, by simp only [recordR, pRecord, pBind, g_k, if_neg h1, if_neg h2, if_neg h34]; rfl, ⟨⟨voteZ_ok, motionZ_held _ _, knownZ_held _ _⟩, fun _ => ⟨rfl, rfl⟩⟩⟩
end Go.Proofs.YtjhaafbbdgjagaaGreat
