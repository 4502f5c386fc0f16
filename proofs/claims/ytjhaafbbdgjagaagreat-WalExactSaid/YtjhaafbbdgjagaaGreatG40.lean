/- Of the texts Gr1, Gr2, Gr3, Gr4, Gr5. -/
import Derived.Test.YtjhaafbbdgjagaaGreatG39
set_option linter.unusedSimpArgs false
set_option linter.unusedVariables false
namespace Go.Proofs.YtjhaafbbdgjagaaGreat
open Go.RowKit Vc
set_option maxRecDepth 100000
theorem Reads.bind {α β : Type} {p : ByteArray → Got α} {f : α → ByteArray → Got β} {q q1 q2 : Except Int ByteArray} {v : α} {u : β} (h : Reads q p q1 v) (g : Reads q1 (f v) q2 u) : Reads q (pBind p f) q2 u := (bind_step h).trans g
theorem pRep_mono {α : Type} {p : ByteArray → Got α} : ∀ {k n : Nat} {s : ByteArray} {e : Int}, pRep p k s = .error e → k ≤ n → pRep p n s = .error e
 | 0, _, _, _, h, _ => by simp [pRep] at h
 | k + 1, 0, _, _, _, h => absurd h (by omega)
 | k + 1, n + 1, s, e, h, hk => by
  unfold pRep at h ⊢
  split at h
  ·exact h
  ·next x s1 hp =>
   split at h
   ·next e' hr => rw [pRep_mono hr (by omega)]; exact h
   ·cases h
theorem rep_zero {α : Type} (p : ByteArray → Got α) (q : Except Int ByteArray) : Reads q (pRep p 0) q [] := by cases q <;> rfl
theorem rep_snoc {α : Type} {p : ByteArray → Got α} {q0 q q' : Except Int ByteArray} {k : Nat} {l : List α} {v : α} (h : Reads q0 (pRep p k) q l) (g : Reads q p q' v) : Reads q0 (pRep p (k + 1)) q' (l ++ [v]) := by
 unfold Reads at *
 rcases q0 with c0 | s0 <;> rcases q with c | s <;> rcases q' with c' | s' <;> simp only [Except.bind, Except.map] at *
 ·cases h; cases g; rfl
 ·cases g
 ·cases h
 ·cases h
 ·cases g; exact pRep_mono h (by omega)
 ·cases g
 ·exact pRep_err h g (by omega)
 ·exact pRep_snoc h g
theorem rep_stop {α : Type} {p : ByteArray → Got α} {q0 : Except Int ByteArray} {k n : Nat} {l : List α} {c : Int} (h : Reads q0 (pRep p k) (.error c) l) (hk : k ≤ n) : Reads q0 (pRep p n) (.error c) l := by
 unfold Reads at *
 rcases q0 with c0 | s0 <;> simp only [Except.bind, Except.map] at *
 ·exact h
 ·exact pRep_mono h hk
theorem pList_eq {α : Type} (most : Int) (p : ByteArray → Got α) : pList most p = pBind (pUpTo most) fun n => pRep p n.toNat := by
 funext s; unfold pList pBind; cases pUpTo most s <;> rfl
theorem Reads.ok {α : Type} (v : α) (q : Except Int ByteArray) : Reads q (fun z => .ok (v, z)) q v := by cases q <;> rfl
def refC {D : Type} (R : Rdr D) (lim : D → Prop) : Ctr where
 pre us _ := match us with
  | [.p _, .s b, .i a, .i _] => okR b a
  | _ => False
 post us os := match us with
  | [.p _, .s b, .i a, .i e] => ∃ y a' e', os.reverse.take 3 = [.i e', .i a', .s b] ∧ okR b a' ∧ Reads (Rel b a e) R.p (Rel b a' e') y
  | _ => False
 fact us os w := match us with
  | [.p _, .s b, .i a, .i e] => ∃ x a' e', os = R.us x ++ [.s b, .i a', .i e'] ∧ Reads (Rel b a e) R.p (Rel b a' e') (R.strip x) ∧ lim x ∧ R.held w x
  | _ => False
def rcore {D : Type} (R : Rdr D) (m : Nat) (k : Int) (b : ByteArray) (a e n : Int) (b0 : ByteArray) (a0 e0 : Int) : Prop := k = m ∧ (m : Int) ≤ n ∧ b = b0 ∧ okR b a ∧ ∃ ys : List D, Reads (Rel b0 a0 e0) (pRep R.p m) (Rel b a e) ys
def rfact {D : Type} (R : Rdr D) (lim : D → Prop) (w : World) (m : Nat) (xs : List Value) (b : ByteArray) (a e : Int) (b0 : ByteArray) (a0 e0 : Int) : Prop := ∃ l : List D, l.length = m ∧ xs = l.flatMap R.cells ∧ Reads (Rel b0 a0 e0) (pRep R.p m) (Rel b a e) (l.map R.strip) ∧ ∀ x ∈ l, R.held w x ∧ lim x
def rloop {D : Type} (R : Rdr D) (lim : D → Prop) (j : Nat) : Inv where
 inv us := match us with
  | .n m :: .l _ :: .i k :: .s b :: .i a :: .i e :: r => r.take j = r.drop (j + 4) ∧ match r.drop j with
   | .i n :: .s b0 :: .i a0 :: .i e0 :: _ => rcore R m k b a e n b0 a0 e0
   | _ => False
  | _ => False
 mea us := match us with
  | .n _ :: .l _ :: .i k :: .s _ :: .i _ :: .i _ :: r => match r.drop j with
   | .i n :: _ => (n - k).toNat
   | _ => 0
  | _ => 0
 fact us w := match us with
  | .n m :: .l xs :: .i _ :: .s b :: .i a :: .i e :: r => match r.drop j with
   | .i _ :: .s b0 :: .i a0 :: .i e0 :: _ => rfact R lim w m xs b a e b0 a0 e0
   | _ => False
  | _ => False
section
variable {D : Type} {R : Rdr D} {lim : D → Prop} {m : Nat} {k n a a1 e e1 a0 e0 : Int} {b b0 : ByteArray} {xs : List Value} {w : World}
theorem rc_init (hn : 0 ≤ n) (hb : okR b a) : rcore R 0 0 b a e n b a e := ⟨rfl, hn, rfl, hb, [], rep_zero _ _⟩
theorem rf_init : rfact R lim w 0 [] b a e b a e := ⟨[], rfl, rfl, rep_zero _ _, fun _ h => absurd h (by simp)⟩
theorem rc_ok (h : rcore R m k b a e n b0 a0 e0) : okR b a := h.2.2.2.1
theorem rc_b (h : rcore R m k b a e n b0 a0 e0) : b = b0 := h.2.2.1
theorem rc_next {y : D} (h : rcore R m k b a e n b0 a0 e0) (hk : k < n) (ho : okR b a1) (g : Reads (Rel b a e) R.p (Rel b a1 e1) y) : rcore R (m + 1) (k + 1) b a1 e1 n b0 a0 e0 := by
 obtain ⟨h1, h2, h3, h4, l, h5⟩ := h; exact ⟨by omega, by omega, h3, ho, _, rep_snoc h5 g⟩
theorem rc_room (h : rcore R m k b a e n b0 a0 e0) (hk : k < n) (hn : n ≤ 1000000) (q : Nat) (hq : q ≤ 100000) : ((m + 1 : Nat) : Int) ≤ 9223372036854775807 ∧ (((m + 1) * q : Nat) : Int) ≤ 140737488355328 ∧ (-9223372036854775808 ≤ k + 1 ∧ k + 1 ≤ 9223372036854775807) := by
 obtain ⟨h1, h2, h3, h4, l, h5⟩ := h; have hm : m + 1 ≤ 1000001 := by omega
 have := Nat.mul_le_mul hm hq; exact ⟨by omega, by omega, by omega, by omega⟩
theorem rf_next {x : D} (h : rfact R lim w m xs b a e b0 a0 e0) (g : Reads (Rel b a e) R.p (Rel b a1 e1) (R.strip x)) (h1 : R.held w x) (h2 : lim x) : rfact R lim w (m + 1) (xs ++ R.cells x) b a1 e1 b0 a0 e0 := by
 obtain ⟨l, i1, i2, i3, i4⟩ := h; refine ⟨l ++ [x], by simp [i1], by rw [i2]; simp, ?_, ?_⟩
 ·rw [List.map_append]; exact rep_snoc i3 g
 ·intro y hy
  rcases List.mem_append.1 hy with hy | hy
  ·exact i4 y hy
  ·have : y = x := by simpa using hy
   rw [this]; exact ⟨h1, h2⟩
theorem rc_end (h : rcore R m k b a e n b0 a0 e0) (hk : k < n → ¬ e = 0) : ∃ ys : List D, Reads (Rel b0 a0 e0) (pRep R.p n.toNat) (Rel b a e) ys := by
 obtain ⟨h1, h2, h3, h4, l, h5⟩ := h; refine ⟨l, ?_⟩
 by_cases hl : k < n
 ·rw [Rel.bad (hk hl)] at h5 ⊢
  exact rep_stop h5 (by omega)
 ·rw [show n.toNat = m by omega]; exact h5
theorem rf_end (h : rcore R m k b a e n b0 a0 e0) (hk : k < n → ¬ e = 0) (hf : rfact R lim w m xs b a e b0 a0 e0) : ∃ l : List D, l.length = m ∧ (m : Int) ≤ n ∧ xs = l.flatMap R.cells ∧ Reads (Rel b0 a0 e0) (pRep R.p n.toNat) (Rel b a e) (l.map R.strip) ∧ ∀ x ∈ l, R.held w x ∧ lim x := by
 obtain ⟨h1, h2, h3, h4, _, _⟩ := h; obtain ⟨l, i1, i2, i3, i4⟩ := hf; refine ⟨l, i1, h2, i2, ?_, i4⟩
 by_cases hl : k < n
 ·rw [Rel.bad (hk hl)] at i3 ⊢
  exact rep_stop i3 (by omega)
 ·rw [show n.toNat = m by omega]; exact i3
end
theorem sumL_le {α : Type} {f : α → Nat} {c : Nat} : ∀ {l : List α}, (∀ x ∈ l, f x ≤ c) → sumL f l ≤ c * l.length
 | [], _ => Nat.zero_le _
 | x :: l, h => by
  have h1 := h x (by simp); have h2 := sumL_le (l := l) fun y hy => h y (by simp [hy])
  rw [sumL_cons, List.length_cons, Nat.mul_succ]; omega
def lim_num : Int → Prop := fun _ => True
def lim_turn : TurnD → Prop := fun _ => True
def lim_seat : Seat → Prop := fun _ => True
def lim_vote : VoteD → Prop := fun _ => True
def cfg_rvote : Cfg := { con := [(67, 0), (155, 0), (156, 0)], lents := [(67, [(0, 122)]), (155, [(0, 122)]), (156, [(0, 122)])], mine := [(0, 122)] }
def vcd_rvote : { v : VC // vcOf Tryz.prog cfg_rvote 74 = v } := by refine ⟨?v, ?h⟩; rotate_left; conv => lhs; reduce
theorem vce_rvote : vcOf Tryz.prog cfg_rvote 74 = vcd_rvote.1 := vcd_rvote.2
set_option linter.unusedVariables false in
theorem rvote_ok : KeepsL Tryz.prog 74 (refC voteR lim_vote) cfg_rvote.mine := by
 refine keepsL_v Tryz.func74 cfg_rvote vce_rvote [.p, .s, .i, .i] (refC voteR lim_vote) [(67, RNumS), (155, RFlagS), (156, RDigS)] ⟨rnum_ok, rflag_ok, rdig_ok, trivial⟩ (by kernel_rfl) (fun _ _ _ h => h) ?_; intro x0 z a0 e0 w hp; refine ⟨[], vc_use ?Q ?h ?g⟩
 case h => intro O C s I b; conv => lhs; reduce
 dsimp only [std]; simp only [ctrOf, invOf, List.lookup, Nat.reduceBEq, Option.getD_some, Int.reduceOfNat, Int.reduceNegSucc]; have ok0 : okR z a0 := hp; intro p_v_h; refine ⟨fun _ _ => ok0, fun v_h z a1 e1 ⟨v1, a1', e1', ho, ok1, W_h, L_h⟩ => ?_⟩; cases ho; intro p_v_r; refine ⟨fun _ _ => ok1, fun v_r z a2 e2 ⟨v1, a1', e1', ho, ok2, W_r, L_r⟩ => ?_⟩; cases ho; intro p_v_s; refine ⟨fun _ _ => ok2, fun v_s z a3 e3 ⟨v1, a1', e1', ho, ok3, W_s, L_s⟩ => ?_⟩; cases ho; intro p_v_has; refine ⟨fun _ _ => ok3, fun v_has z a4 e4 ⟨v1, a1', e1', ho, ok4, W_has, _⟩ => ?_⟩; cases ho; intro p_v_b; refine ⟨fun _ _ => ok4, fun v_b z a5 e5 ⟨v1, a1', e1', ho, ok5, W_b, L_b⟩ => ?_⟩; cases ho; intro p_v_f; refine ⟨fun _ _ => ok5, fun v_f z a6 e6 ⟨v1, a1', e1', ho, ok6, W_f, L_f⟩ => ?_⟩; cases ho; refine ⟨⟨⟨v_h, v_r, v_s, v_has, v_b, v_f⟩, a6, e6, rfl, ok6, Reads.bind W_h (Reads.bind W_r (Reads.bind W_s (Reads.bind W_has (Reads.bind W_b (Reads.bind W_f (Reads.ok _ _))))))⟩, fun w hw => ?_⟩; obtain ⟨⟨⟨⟨⟨⟨_, _⟩, _⟩, _⟩, _⟩, _⟩, _⟩ := hw; exact ⟨⟨v_h, v_r, v_s, v_has, v_b, v_f⟩, a6, e6, rfl, Reads.bind W_h (Reads.bind W_r (Reads.bind W_s (Reads.bind W_has (Reads.bind W_b (Reads.bind W_f (Reads.ok _ _)))))), trivial, L_b⟩
def lim_header : HeaderD → Prop := fun _ => True
def cfg_rheader : Cfg := { con := [(67, 0), (156, 0)], lents := [(67, [(0, 122)]), (156, [(0, 122)])], mine := [(0, 122)] }
def vcd_rheader : { v : VC // vcOf Tryz.prog cfg_rheader 92 = v } := by refine ⟨?v, ?h⟩; rotate_left; conv => lhs; reduce
theorem vce_rheader : vcOf Tryz.prog cfg_rheader 92 = vcd_rheader.1 := vcd_rheader.2
set_option linter.unusedVariables false in
theorem rheader_ok : KeepsL Tryz.prog 92 (refC headerR lim_header) cfg_rheader.mine := by
 refine keepsL_v Tryz.func92 cfg_rheader vce_rheader [.p, .s, .i, .i] (refC headerR lim_header) [(67, RNumS), (156, RDigS)] ⟨rnum_ok, rdig_ok, trivial⟩ (by kernel_rfl) (fun _ _ _ h => h) ?_; intro x0 z a0 e0 w hp; refine ⟨[], vc_use ?Q ?h ?g⟩
 case h => intro O C s I b; conv => lhs; reduce
 dsimp only [std]; simp only [ctrOf, invOf, List.lookup, Nat.reduceBEq, Option.getD_some, Int.reduceOfNat, Int.reduceNegSucc]; have ok0 : okR z a0 := hp; intro p_v_c; refine ⟨fun _ _ => ok0, fun v_c z a1 e1 ⟨v1, a1', e1', ho, ok1, W_c, L_c⟩ => ?_⟩; cases ho; intro p_v_h; refine ⟨fun _ _ => ok1, fun v_h z a2 e2 ⟨v1, a1', e1', ho, ok2, W_h, L_h⟩ => ?_⟩; cases ho; intro p_v_p; refine ⟨fun _ _ => ok2, fun v_p z a3 e3 ⟨v1, a1', e1', ho, ok3, W_p, L_p⟩ => ?_⟩; cases ho; intro p_v_t; refine ⟨fun _ _ => ok3, fun v_t z a4 e4 ⟨v1, a1', e1', ho, ok4, W_t, L_t⟩ => ?_⟩; cases ho; intro p_v_g; refine ⟨fun _ _ => ok4, fun v_g z a5 e5 ⟨v1, a1', e1', ho, ok5, W_g, L_g⟩ => ?_⟩; cases ho; intro p_v_s; refine ⟨fun _ _ => ok5, fun v_s z a6 e6 ⟨v1, a1', e1', ho, ok6, W_s, L_s⟩ => ?_⟩; cases ho; intro p_v_r; refine ⟨fun _ _ => ok6, fun v_r z a7 e7 ⟨v1, a1', e1', ho, ok7, W_r, L_r⟩ => ?_⟩; cases ho; intro p_v_b; refine ⟨fun _ _ => ok7, fun v_b z a8 e8 ⟨v1, a1', e1', ho, ok8, W_b, L_b⟩ => ?_⟩; cases ho; intro p_v_o; refine ⟨fun _ _ => ok8, fun v_o z a9 e9 ⟨v1, a1', e1', ho, ok9, W_o, L_o⟩ => ?_⟩; cases ho; refine ⟨⟨⟨v_c, v_h, v_p, v_t, v_g, v_s, v_r, v_b, v_o⟩, a9, e9, rfl, ok9, Reads.bind W_c (Reads.bind W_h (Reads.bind W_p (Reads.bind W_t (Reads.bind W_g (Reads.bind W_s (Reads.bind W_r (Reads.bind W_b (Reads.bind W_o (Reads.ok _ _)))))))))⟩, fun w hw => ?_⟩; obtain ⟨⟨⟨⟨⟨⟨⟨⟨⟨_, _⟩, _⟩, _⟩, _⟩, _⟩, _⟩, _⟩, _⟩, _⟩ := hw; exact ⟨⟨v_c, v_h, v_p, v_t, v_g, v_s, v_r, v_b, v_o⟩, a9, e9, rfl, Reads.bind W_c (Reads.bind W_h (Reads.bind W_p (Reads.bind W_t (Reads.bind W_g (Reads.bind W_s (Reads.bind W_r (Reads.bind W_b (Reads.bind W_o (Reads.ok _ _))))))))), trivial, ⟨L_p, L_t, L_g, L_s, L_r, L_b⟩⟩
def lim_guilt : GuiltD → Prop := fun _ => True
def cfg_rguilt : Cfg := { con := [(74, 0)], lents := [(74, [(0, 122)])], mine := [(0, 122)] }
def vcd_rguilt : { v : VC // vcOf Tryz.prog cfg_rguilt 110 = v } := by refine ⟨?v, ?h⟩; rotate_left; conv => lhs; reduce
theorem vce_rguilt : vcOf Tryz.prog cfg_rguilt 110 = vcd_rguilt.1 := vcd_rguilt.2
set_option linter.unusedVariables false in
theorem rguilt_ok : KeepsL Tryz.prog 110 (refC guiltR lim_guilt) cfg_rguilt.mine := by
 refine keepsL_v Tryz.func110 cfg_rguilt vce_rguilt [.p, .s, .i, .i] (refC guiltR lim_guilt) [(74, (refC voteR lim_vote))] ⟨rvote_ok, trivial⟩ (by kernel_rfl) (fun _ _ _ h => h) ?_; intro x0 z a0 e0 w hp; refine ⟨[], vc_use ?Q ?h ?g⟩
 case h => intro O C s I b; conv => lhs; reduce
 dsimp only [std]; simp only [ctrOf, invOf, List.lookup, Nat.reduceBEq, Option.getD_some, Int.reduceOfNat, Int.reduceNegSucc]; have ok0 : okR z a0 := hp; intro p_a; refine ⟨fun _ _ => ok0, fun l_a_0 l_a_1 l_a_2 l_a_3 l_a_4 l_a_5 z a1 e1 ⟨y_a, a1', e1', ho, ok1, W_a⟩ => ?_⟩; have ho : ([U.i e1, .i a1, .s z] : List U) = _ := ho; cases ho; intro p_b; refine ⟨fun _ _ => ok1, fun l_b_0 l_b_1 l_b_2 l_b_3 l_b_4 l_b_5 z a2 e2 ⟨y_b, a1', e1', ho, ok2, W_b⟩ => ?_⟩; have ho : ([U.i e2, .i a2, .s z] : List U) = _ := ho; cases ho; refine ⟨⟨⟨y_a, y_b⟩, a2, e2, rfl, ok2, Reads.bind W_a (Reads.bind W_b (Reads.ok _ _))⟩, fun w hw => ?_⟩; obtain ⟨⟨_, ⟨x_a, a2_a, e2_a, q_a, P_a, L_a, H_a⟩⟩, ⟨x_b, a2_b, e2_b, q_b, P_b, L_b, H_b⟩⟩ := hw; cases q_a; cases q_b; exact ⟨⟨x_a, x_b⟩, a2, e2, rfl, Reads.bind P_a (Reads.bind P_b (Reads.ok _ _)), trivial, ⟨H_a, H_b⟩⟩
def lim_cert : CertD → Prop := fun x => certM x ≤ 14
def cfg_rcert : Cfg := { con := [(67, 0), (155, 0), (156, 0), (147, 0)], loops := [(9, { slots := [5], blks := [0, 3], rows := [100197], extra := [.var 30, .var 31, .var 32, .var 33, .var 5, .var 10, .var 15, .var 20, .var 25] })], lents := [(67, [(0, 122)]), (155, [(0, 122)]), (156, [(0, 122)]), (147, [(0, 122)])], mine := [(0, 122)], rcells := [(3, 5, 3)] }
def vcd_rcert : { v : VC // vcOf Tryz.prog cfg_rcert 80 = v } := by refine ⟨?v, ?h⟩; rotate_left; conv => lhs; reduce
theorem vce_rcert : vcOf Tryz.prog cfg_rcert 80 = vcd_rcert.1 := vcd_rcert.2
set_option linter.unusedVariables false in
theorem rcert_ok : KeepsL Tryz.prog 80 (refC certR lim_cert) cfg_rcert.mine := by
 refine keepsL_v Tryz.func80 cfg_rcert vce_rcert [.p, .s, .i, .i] (refC certR lim_cert) [(67, RNumS), (155, RFlagS), (156, RDigS), (147, RUpToS)] ⟨rnum_ok, rflag_ok, rdig_ok, rupto_ok, trivial⟩ (by kernel_rfl) (fun _ _ _ h => h) ?_; intro x0 z a0 e0 w hp; refine ⟨[(9, rloop numR lim_num 5)], vc_use ?Q ?h ?g⟩
 case h => intro O C s I b; conv => lhs; reduce
 dsimp only [std]; simp only [ctrOf, invOf, List.lookup, Nat.reduceBEq, Option.getD_some, Int.reduceOfNat, Int.reduceNegSucc]; have ok0 : okR z a0 := hp; intro p_v_h; refine ⟨fun _ _ => ok0, fun v_h z a1 e1 ⟨v1, a1', e1', ho, ok1, W_h, L_h⟩ => ?_⟩; cases ho; intro p_v_r; refine ⟨fun _ _ => ok1, fun v_r z a2 e2 ⟨v1, a1', e1', ho, ok2, W_r, L_r⟩ => ?_⟩; cases ho; intro p_v_s; refine ⟨fun _ _ => ok2, fun v_s z a3 e3 ⟨v1, a1', e1', ho, ok3, W_s, L_s⟩ => ?_⟩; cases ho; intro p_v_has; refine ⟨fun _ _ => ok3, fun v_has z a4 e4 ⟨v1, a1', e1', ho, ok4, W_has, _⟩ => ?_⟩; cases ho; intro p_v_b; refine ⟨fun _ _ => ok4, fun v_b z a5 e5 ⟨v1, a1', e1', ho, ok5, W_b, L_b⟩ => ?_⟩; cases ho; intro p_c_froms; refine ⟨fun _ _ => ⟨ok5, by decide⟩, fun c_froms z a6 e6 ⟨v1, a1', e1', ho, ok6, W_froms, lo_c_froms, hi_c_froms⟩ => ?_⟩; cases ho; refine ⟨⟨rfl, rc_init lo_c_froms ok6⟩, fun _ _ => rf_init, fun m_froms X_froms k_froms z a7 e7 v_h v_r v_s v_has v_b ⟨hc, hi_froms⟩ => ?_⟩; have hc : ([.i v_h, .i v_r, .i v_s, .b v_has, .i v_b] : List U) = _ := hc; cases hc; have hi_froms : rcore numR m_froms k_froms z a7 e7 c_froms _ a6 e6 := hi_froms; obtain rfl : z = _ := rc_b hi_froms; have ok7 := rc_ok hi_froms; refine ⟨fun hk => ?_, fun hk => ?_⟩
 ·skip
  intro p_u; refine ⟨fun _ _ => rc_ok hi_froms, fun u z ax ex ⟨v1, a1', e1', ho, okx, Wx, Lx⟩ => ?_⟩; cases ho; intro A0 C0; obtain ⟨r1, r2, r3⟩ := rc_room hi_froms hk (by omega) 8 (by decide); exact ⟨r1, r2, r3, ⟨rfl, rc_next hi_froms hk okx Wx⟩, fun w ⟨⟨_, f⟩, _⟩ => rf_next (R := numR) f Wx trivial trivial, by show (c_froms - (k_froms + 1)).toNat < (c_froms - k_froms).toNat; omega, trivial⟩
 have hst_froms : k_froms < c_froms → ¬ e7 = 0 := fun h => absurd h hk
 obtain ⟨ys_froms, Y_froms⟩ := rc_end hi_froms hst_froms; have V_froms : Reads (Rel z a5 e5) (pList 7 pNum) (Rel z a7 e7) ys_froms := by rw [pList_eq]; exact Reads.bind W_froms Y_froms
 intro A_froms C_froms; refine ⟨⟨⟨v_h, v_r, v_s, v_has, v_b, ys_froms, none, 0⟩, a7, e7, rfl, ok7, Reads.bind W_h (Reads.bind W_r (Reads.bind W_s (Reads.bind W_has (Reads.bind W_b (Reads.bind V_froms (Reads.ok _ _))))))⟩, fun w hw => ?_⟩; obtain ⟨⟨⟨⟨⟨⟨⟨⟨_, _⟩, _⟩, _⟩, _⟩, _⟩, _⟩, f_froms⟩, o_froms⟩ := hw; have f_froms : rfact numR lim_num w m_froms X_froms z a7 e7 z a6 e6 := f_froms; obtain ⟨l_froms, n_froms, le_froms, xq_froms, Q_froms, H_froms⟩ := rf_end hi_froms hst_froms f_froms; subst n_froms xq_froms; have R_froms := Rd.of_row o_froms; have S_froms : l_froms.length ≤ maxLen := Nat.le_trans (by omega : _ ≤ 1000) (by decide); have V2_froms : Reads (Rel z a5 e5) (pList 7 pNum) (Rel z a7 e7) (l_froms.map numR.strip) := by rw [pList_eq]; exact Reads.bind W_froms Q_froms
 rw [show l_froms.map numR.strip = l_froms from List.map_id' l_froms] at V2_froms; exact ⟨⟨v_h, v_r, v_s, v_has, v_b, l_froms, A_froms, C_froms⟩, a7, e7, rfl, Reads.bind W_h (Reads.bind W_r (Reads.bind W_s (Reads.bind W_has (Reads.bind W_b (Reads.bind V2_froms (Reads.ok _ _)))))), (by
   show certM _ ≤ 14; dsimp only [certM]; omega), ⟨L_b, ints_of R_froms, S_froms⟩⟩
def lim_bench : BenD → Prop := fun x => x.l.length ≤ 7
def cfg_rbench : Cfg := { con := [(147, 0), (67, 0)], loops := [(4, { slots := [3, 5], blks := [0], rows := [3], extra := [.var 5, .var 6, .var 7, .var 8] })], rows := [(3, 226)], lents := [(147, [(0, 122)]), (67, [(0, 122)])], mine := [(0, 122)] }
def vcd_rbench : { v : VC // vcOf Tryz.prog cfg_rbench 86 = v } := by refine ⟨?v, ?h⟩; rotate_left; conv => lhs; reduce
theorem vce_rbench : vcOf Tryz.prog cfg_rbench 86 = vcd_rbench.1 := vcd_rbench.2
set_option linter.unusedVariables false in
theorem rbench_ok : KeepsL Tryz.prog 86 (refC benchR lim_bench) cfg_rbench.mine := by
 refine keepsL_v Tryz.func86 cfg_rbench vce_rbench [.p, .s, .i, .i] (refC benchR lim_bench) [(147, RUpToS), (67, RNumS)] ⟨rupto_ok, rnum_ok, trivial⟩ (by kernel_rfl) (fun _ _ _ h => h) ?_; intro x0 z a0 e0 w hp; refine ⟨[(4, rloop seatR lim_seat 0)], vc_use ?Q ?h ?g⟩
 case h => intro O C s I b; conv => lhs; reduce
 dsimp only [std]; simp only [ctrOf, invOf, List.lookup, Nat.reduceBEq, Option.getD_some, Int.reduceOfNat, Int.reduceNegSucc]; have ok0 : okR z a0 := hp; intro p_c_l; refine ⟨fun _ _ => ⟨ok0, by decide⟩, fun c_l z a1 e1 ⟨v1, a1', e1', ho, ok1, W_l, lo_c_l, hi_c_l⟩ => ?_⟩; cases ho; refine ⟨⟨rfl, rc_init lo_c_l ok1⟩, fun _ _ => rf_init, fun m_l X_l k_l z a2 e2  ⟨hc, hi_l⟩ => ?_⟩; have hi_l : rcore seatR m_l k_l z a2 e2 c_l _ a1 e1 := hi_l; obtain rfl : z = _ := rc_b hi_l; have ok2 := rc_ok hi_l; refine ⟨fun hk => ?_, fun hk => ?_⟩
 ·skip
  intro p_u_who; refine ⟨fun _ _ => rc_ok hi_l, fun u_who z ax0 ex0 ⟨v1, a1', e1', ho, okx0, Wx0, Lx_who⟩ => ?_⟩; cases ho; intro p_u_weight; refine ⟨fun _ _ => okx0, fun u_weight z ax1 ex1 ⟨v1, a1', e1', ho, okx1, Wx1, Lx_weight⟩ => ?_⟩; cases ho; have Wx : Reads _ pSeat _ (⟨u_who, u_weight⟩ : Seat) := Reads.bind Wx0 (Reads.bind Wx1 (Reads.ok _ _)); have okx := okx1; obtain ⟨r1, r2, r3⟩ := rc_room hi_l hk (by omega) 16 (by decide); exact ⟨r1, r2, r3, ⟨rfl, rc_next hi_l hk okx Wx⟩, fun w ⟨⟨⟨_, f⟩, _⟩, _⟩ => rf_next (R := seatR) (x := ⟨u_who, u_weight⟩) f Wx trivial trivial, by show (c_l - (k_l + 1)).toNat < (c_l - k_l).toNat; omega, trivial⟩
 have hst_l : k_l < c_l → ¬ e2 = 0 := fun h => absurd h hk
 obtain ⟨ys_l, Y_l⟩ := rc_end hi_l hst_l; have V_l : Reads (Rel z a0 e0) (pList 7 pSeat) (Rel z a2 e2) ys_l := by rw [pList_eq]; exact Reads.bind W_l Y_l
 intro A_l C_l; refine ⟨⟨⟨ys_l, none, 0⟩, a2, e2, rfl, ok2, Reads.bind V_l (Reads.ok _ _)⟩, fun w hw => ?_⟩; obtain ⟨⟨⟨_, _⟩, f_l⟩, o_l⟩ := hw; have f_l : rfact seatR lim_seat w m_l X_l z a2 e2 z a1 e1 := f_l; obtain ⟨l_l, n_l, le_l, xq_l, Q_l, H_l⟩ := rf_end hi_l hst_l f_l; subst n_l xq_l; have R_l := Rd.of_row o_l; have S_l : l_l.length ≤ maxLen := Nat.le_trans (by omega : _ ≤ 1000) (by decide); have V2_l : Reads (Rel z a0 e0) (pList 7 pSeat) (Rel z a2 e2) (l_l.map seatR.strip) := by rw [pList_eq]; exact Reads.bind W_l Q_l
 rw [show l_l.map seatR.strip = l_l from List.map_id' l_l] at V2_l; exact ⟨⟨l_l, A_l, C_l⟩, a2, e2, rfl, Reads.bind V2_l (Reads.ok _ _), (by
   show List.length l_l ≤ 7; omega), ⟨R_l, S_l⟩⟩
def lim_proof : ProofD → Prop := fun x => proofM x ≤ 5000
def cfg_rproof : Cfg := { con := [(147, 0), (156, 0), (155, 0), (177, 0)], loops := [(4, { slots := [5], blks := [0, 3], rows := [100192], extra := [.var 5, .var 6, .var 7, .var 8, .bool false, .str [], .str []] })], lents := [(147, [(0, 122)]), (156, [(0, 122)]), (155, [(0, 122)]), (177, [(0, 122)])], mine := [(0, 122)], rcells := [(3, 0, 233)] }
def vcd_rproof : { v : VC // vcOf Tryz.prog cfg_rproof 98 = v } := by refine ⟨?v, ?h⟩; rotate_left; conv => lhs; reduce
theorem vce_rproof : vcOf Tryz.prog cfg_rproof 98 = vcd_rproof.1 := vcd_rproof.2
set_option linter.unusedVariables false in
theorem rproof_ok : KeepsL Tryz.prog 98 (refC proofR lim_proof) cfg_rproof.mine := by
 refine keepsL_v Tryz.func98 cfg_rproof vce_rproof [.p, .s, .i, .i] (refC proofR lim_proof) [(147, RUpToS), (156, RDigS), (155, RFlagS), (177, RTextS)] ⟨rupto_ok, rdig_ok, rflag_ok, rtext_ok, trivial⟩ (by kernel_rfl) (fun _ _ _ h => h) ?_; intro x0 z a0 e0 w hp; refine ⟨[(4, rloop turnR lim_turn 3)], vc_use ?Q ?h ?g⟩
 case h => intro O C s I b; conv => lhs; reduce
 dsimp only [std]; simp only [ctrOf, invOf, List.lookup, Nat.reduceBEq, Option.getD_some, Int.reduceOfNat, Int.reduceNegSucc]; have ok0 : okR z a0 := hp; intro p_c_turns; refine ⟨fun _ _ => ⟨ok0, by decide⟩, fun c_turns z a1 e1 ⟨v1, a1', e1', ho, ok1, W_turns, lo_c_turns, hi_c_turns⟩ => ?_⟩; cases ho; refine ⟨⟨rfl, rc_init lo_c_turns ok1⟩, fun _ _ => rf_init, fun m_turns X_turns k_turns z a2 e2 v_leaf t_key t_value ⟨hc, hi_turns⟩ => ?_⟩; have hc : ([.b v_leaf, .s t_key, .s t_value] : List U) = _ := hc; cases hc; have hi_turns : rcore turnR m_turns k_turns z a2 e2 c_turns _ a1 e1 := hi_turns; obtain rfl : z = _ := rc_b hi_turns; have ok2 := rc_ok hi_turns; refine ⟨fun hk => ⟨fun he => ?_, fun he => ?_⟩, fun hk => ?_⟩
 ·skip
  intro p_u_p; refine ⟨fun _ _ => ⟨rc_ok hi_turns, by decide⟩, fun u_p z ax0 ex0 ⟨v1, a1', e1', ho, okx0, Wx0, lo_u_p, hi_u_p⟩ => ?_⟩; cases ho; intro p_u_d; refine ⟨fun _ _ => okx0, fun u_d z ax1 ex1 ⟨v1, a1', e1', ho, okx1, Wx1, Lx_d⟩ => ?_⟩; cases ho; have Wx : Reads _ pTurn _ (⟨u_p, u_d⟩ : TurnD) := Reads.bind Wx0 (Reads.bind Wx1 (Reads.ok _ _)); have okx := okx1; intro A0 C0; obtain ⟨r1, r2, r3⟩ := rc_room hi_turns hk (by omega) 16 (by decide); exact ⟨r1, r2, r3, ⟨rfl, rc_next hi_turns hk okx Wx⟩, fun w ⟨⟨⟨_, f⟩, _⟩, _⟩ => rf_next (R := turnR) (x := ⟨u_p, u_d⟩) f Wx Lx_d trivial, by show (c_turns - (k_turns + 1)).toNat < (c_turns - k_turns).toNat; omega, trivial⟩
 ·have hst_turns : k_turns < c_turns → ¬ e2 = 0 := fun _ => he
  obtain ⟨ys_turns, Y_turns⟩ := rc_end hi_turns hst_turns; have V_turns : Reads (Rel z a0 e0) (pList 288 pTurn) (Rel z a2 e2) ys_turns := by rw [pList_eq]; exact Reads.bind W_turns Y_turns
  intro p_v_leaf; refine ⟨fun _ _ => ok2, fun v_leaf z a3 e3 ⟨v1, a1', e1', ho, ok3, W_leaf, _⟩ => ?_⟩; cases ho; intro p_t_key; refine ⟨fun _ _ => ⟨ok3, by decide, by decide⟩, fun t_key z a4 e4 ⟨v1, a1', e1', ho, ok4, W_key, sz_t_key⟩ => ?_⟩; cases ho; intro p_t_value; refine ⟨fun _ _ => ⟨ok4, by decide, by decide⟩, fun t_value z a5 e5 ⟨v1, a1', e1', ho, ok5, W_value, sz_t_value⟩ => ?_⟩; cases ho; intro A_turns C_turns; refine ⟨⟨⟨ys_turns, none, 0, v_leaf, t_key.data.toList, t_value.data.toList⟩, a5, e5, rfl, ok5, Reads.bind V_turns (Reads.bind W_leaf (Reads.bind W_key (Reads.bind W_value (Reads.ok _ _))))⟩, fun w hw => ?_⟩; obtain ⟨⟨⟨⟨⟨⟨_, _⟩, f_turns⟩, _⟩, _⟩, _⟩, o_turns⟩ := hw; have f_turns : rfact turnR lim_turn w m_turns X_turns z a2 e2 z a1 e1 := f_turns; obtain ⟨l_turns, n_turns, le_turns, xq_turns, Q_turns, H_turns⟩ := rf_end hi_turns hst_turns f_turns; subst n_turns xq_turns; have R_turns := Rd.of_row o_turns; have S_turns : l_turns.length ≤ maxLen := Nat.le_trans (by omega : _ ≤ 1000) (by decide); have V2_turns : Reads (Rel z a0 e0) (pList 288 pTurn) (Rel z a2 e2) (l_turns.map turnR.strip) := by rw [pList_eq]; exact Reads.bind W_turns Q_turns
  rw [show l_turns.map turnR.strip = l_turns from List.map_id' l_turns] at V2_turns; have b_key := bs_back t_key; have b_value := bs_back t_value; exact ⟨⟨l_turns, A_turns, C_turns, v_leaf, t_key.data.toList, t_value.data.toList⟩, a5, e5, (by simp only [proofR, b_key, b_value]; rfl), Reads.bind V2_turns (Reads.bind W_leaf (Reads.bind W_key (Reads.bind W_value (Reads.ok _ _)))), (by
    show proofM _ ≤ 5000; have s_turns := sumL_le (f := turnM) (c := 3) (l := l_turns) (fun x hx => Nat.le_refl _); have z_key := size_list t_key; have z_value := size_list t_value; dsimp only [proofM]; omega), ⟨R_turns, S_turns, (fun x hx => (H_turns x hx).1)⟩⟩
 ·have hst_turns : k_turns < c_turns → ¬ e2 = 0 := fun h => absurd h hk
  obtain ⟨ys_turns, Y_turns⟩ := rc_end hi_turns hst_turns; have V_turns : Reads (Rel z a0 e0) (pList 288 pTurn) (Rel z a2 e2) ys_turns := by rw [pList_eq]; exact Reads.bind W_turns Y_turns
  intro p_v_leaf; refine ⟨fun _ _ => ok2, fun v_leaf z a3 e3 ⟨v1, a1', e1', ho, ok3, W_leaf, _⟩ => ?_⟩; cases ho; intro p_t_key; refine ⟨fun _ _ => ⟨ok3, by decide, by decide⟩, fun t_key z a4 e4 ⟨v1, a1', e1', ho, ok4, W_key, sz_t_key⟩ => ?_⟩; cases ho; intro p_t_value; refine ⟨fun _ _ => ⟨ok4, by decide, by decide⟩, fun t_value z a5 e5 ⟨v1, a1', e1', ho, ok5, W_value, sz_t_value⟩ => ?_⟩; cases ho; intro A_turns C_turns; refine ⟨⟨⟨ys_turns, none, 0, v_leaf, t_key.data.toList, t_value.data.toList⟩, a5, e5, rfl, ok5, Reads.bind V_turns (Reads.bind W_leaf (Reads.bind W_key (Reads.bind W_value (Reads.ok _ _))))⟩, fun w hw => ?_⟩; obtain ⟨⟨⟨⟨⟨⟨_, _⟩, f_turns⟩, _⟩, _⟩, _⟩, o_turns⟩ := hw; have f_turns : rfact turnR lim_turn w m_turns X_turns z a2 e2 z a1 e1 := f_turns; obtain ⟨l_turns, n_turns, le_turns, xq_turns, Q_turns, H_turns⟩ := rf_end hi_turns hst_turns f_turns; subst n_turns xq_turns; have R_turns := Rd.of_row o_turns; have S_turns : l_turns.length ≤ maxLen := Nat.le_trans (by omega : _ ≤ 1000) (by decide); have V2_turns : Reads (Rel z a0 e0) (pList 288 pTurn) (Rel z a2 e2) (l_turns.map turnR.strip) := by rw [pList_eq]; exact Reads.bind W_turns Q_turns
  rw [show l_turns.map turnR.strip = l_turns from List.map_id' l_turns] at V2_turns; have b_key := bs_back t_key; have b_value := bs_back t_value; exact ⟨⟨l_turns, A_turns, C_turns, v_leaf, t_key.data.toList, t_value.data.toList⟩, a5, e5, (by simp only [proofR, b_key, b_value]; rfl), Reads.bind V2_turns (Reads.bind W_leaf (Reads.bind W_key (Reads.bind W_value (Reads.ok _ _)))), (by
    show proofM _ ≤ 5000; have s_turns := sumL_le (f := turnM) (c := 3) (l := l_turns) (fun x hx => Nat.le_refl _); have z_key := size_list t_key; have z_value := size_list t_value; dsimp only [proofM]; omega), ⟨R_turns, S_turns, (fun x hx => (H_turns x hx).1)⟩⟩
def lim_sight : SightD → Prop := fun x => sightM x ≤ 60
def cfg_rsight : Cfg := { con := [(92, 0), (80, 0), (86, 0)], lents := [(92, [(0, 122)]), (80, [(0, 122)]), (86, [(0, 122)])], mine := [(0, 122)] }
def vcd_rsight : { v : VC // vcOf Tryz.prog cfg_rsight 187 = v } := by refine ⟨?v, ?h⟩; rotate_left; conv => lhs; reduce
theorem vce_rsight : vcOf Tryz.prog cfg_rsight 187 = vcd_rsight.1 := vcd_rsight.2
set_option linter.unusedVariables false in
theorem rsight_ok : KeepsL Tryz.prog 187 (refC sightR lim_sight) cfg_rsight.mine := by
 refine keepsL_v Tryz.func187 cfg_rsight vce_rsight [.p, .s, .i, .i] (refC sightR lim_sight) [(92, (refC headerR lim_header)), (80, (refC certR lim_cert)), (86, (refC benchR lim_bench))] ⟨rheader_ok, rcert_ok, rbench_ok, trivial⟩ (by kernel_rfl) (fun _ _ _ h => h) ?_; intro x0 z a0 e0 w hp; refine ⟨[], vc_use ?Q ?h ?g⟩
 case h => intro O C s I b; conv => lhs; reduce
 dsimp only [std]; simp only [ctrOf, invOf, List.lookup, Nat.reduceBEq, Option.getD_some, Int.reduceOfNat, Int.reduceNegSucc]; have ok0 : okR z a0 := hp; intro p_header; refine ⟨fun _ _ => ok0, fun l_header_0 l_header_1 l_header_2 l_header_3 l_header_4 l_header_5 l_header_6 l_header_7 l_header_8 z a1 e1 ⟨y_header, a1', e1', ho, ok1, W_header⟩ => ?_⟩; have ho : ([U.i e1, .i a1, .s z] : List U) = _ := ho; cases ho; intro p_cert; refine ⟨fun _ _ => ok1, fun l_cert_0 l_cert_1 l_cert_2 l_cert_3 l_cert_4 l_cert_5 l_cert_6 l_cert_7 z a2 e2 ⟨y_cert, a1', e1', ho, ok2, W_cert⟩ => ?_⟩; have ho : ([U.i e2, .i a2, .s z] : List U) = _ := ho; cases ho; intro p_bn; refine ⟨fun _ _ => ok2, fun l_bn_0 l_bn_1 l_bn_2 z a3 e3 ⟨y_bn, a1', e1', ho, ok3, W_bn⟩ => ?_⟩; have ho : ([U.i e3, .i a3, .s z] : List U) = _ := ho; cases ho; refine ⟨⟨⟨y_header, y_cert, y_bn.l, y_bn.a, y_bn.c⟩, a3, e3, rfl, ok3, Reads.bind W_header (Reads.bind W_cert (Reads.bind W_bn (Reads.ok _ _)))⟩, fun w hw => ?_⟩; obtain ⟨⟨⟨_, ⟨x_header, a2_header, e2_header, q_header, P_header, L_header, H_header⟩⟩, ⟨x_cert, a2_cert, e2_cert, q_cert, P_cert, L_cert, H_cert⟩⟩, ⟨x_bn, a2_bn, e2_bn, q_bn, P_bn, L_bn, H_bn⟩⟩ := hw; cases q_header; cases q_cert; cases q_bn; exact ⟨⟨x_header, x_cert, x_bn.l, x_bn.a, x_bn.c⟩, a3, e3, rfl, Reads.bind P_header (Reads.bind P_cert (Reads.bind P_bn (Reads.ok _ _))), (by
   show sightM _ ≤ 60; have s_cert : certM x_cert ≤ 14 := L_cert; have s_bn : x_bn.l.length ≤ 7 := L_bn; dsimp only [sightM, headerM]; omega), ⟨H_header, H_cert, H_bn.1, H_bn.2⟩⟩
def lim_tx : TxD → Prop := fun x => txM x ≤ 7300
def cfg_rtx : Cfg := { con := [(67, 0), (177, 0), (147, 0), (187, 0), (98, 0)], loops := [(12, { slots := [5], blks := [0, 3], rows := [100200], extra := [.var 45, .var 46, .var 47, .var 48, .var 5, .var 10, .var 15, .var 20, .var 25, .var 30, .var 35, .var 40] }), (18, { slots := [7], blks := [0, 3], rows := [100201], extra := [.var 64, .var 65, .var 66, .var 67, .var 55, .var 56, .var 57, .var 58, .var 59, .var 60, .var 61, .var 62] }), (24, { slots := [9], blks := [0, 3], rows := [100202], extra := [.var 83, .var 84, .var 85, .var 86, .var 74, .var 75, .var 76, .var 77, .var 78, .var 79, .var 80, .var 81] })], lents := [(67, [(0, 122)]), (177, [(0, 122)]), (147, [(0, 122)]), (187, [(0, 122)]), (98, [(0, 122)])], mine := [(0, 122)], rcells := [(3, 8, 3), (3, 9, 245), (3, 10, 87)] }
def vcd_rtx : { v : VC // vcOf Tryz.prog cfg_rtx 104 = v } := by refine ⟨?v, ?h⟩; rotate_left; conv => lhs; reduce
theorem vce_rtx : vcOf Tryz.prog cfg_rtx 104 = vcd_rtx.1 := vcd_rtx.2
set_option linter.unusedVariables false in
theorem rrtx_ok : KeepsL Tryz.prog 104 (refC txR lim_tx) cfg_rtx.mine := by
 refine keepsL_v Tryz.func104 cfg_rtx vce_rtx [.p, .s, .i, .i] (refC txR lim_tx) [(67, RNumS), (177, RTextS), (147, RUpToS), (187, (refC sightR lim_sight)), (98, (refC proofR lim_proof))] ⟨rnum_ok, rtext_ok, rupto_ok, rsight_ok, rproof_ok, trivial⟩ (by kernel_rfl) (fun _ _ _ h => h) ?_; intro x0 z a0 e0 w hp; refine ⟨[(12, rloop numR lim_num 8), (18, rloop sightR lim_sight 8), (24, rloop proofR lim_proof 8)], vc_use ?Q ?h ?g⟩
 case h => intro O C s I b; conv => lhs; reduce
 dsimp only [std]; simp only [ctrOf, invOf, List.lookup, Nat.reduceBEq, Option.getD_some, Int.reduceOfNat, Int.reduceNegSucc]; have ok0 : okR z a0 := hp; intro p_v_k; refine ⟨fun _ _ => ok0, fun v_k z a1 e1 ⟨v1, a1', e1', ho, ok1, W_k, L_k⟩ => ?_⟩; cases ho; intro p_v_f; refine ⟨fun _ _ => ok1, fun v_f z a2 e2 ⟨v1, a1', e1', ho, ok2, W_f, L_f⟩ => ?_⟩; cases ho; intro p_v_n; refine ⟨fun _ _ => ok2, fun v_n z a3 e3 ⟨v1, a1', e1', ho, ok3, W_n, L_n⟩ => ?_⟩; cases ho; intro p_v_p; refine ⟨fun _ _ => ok3, fun v_p z a4 e4 ⟨v1, a1', e1', ho, ok4, W_p, L_p⟩ => ?_⟩; cases ho; intro p_v_l; refine ⟨fun _ _ => ok4, fun v_l z a5 e5 ⟨v1, a1', e1', ho, ok5, W_l, L_l⟩ => ?_⟩; cases ho; intro p_v_t; refine ⟨fun _ _ => ok5, fun v_t z a6 e6 ⟨v1, a1', e1', ho, ok6, W_t, L_t⟩ => ?_⟩; cases ho; intro p_v_a; refine ⟨fun _ _ => ok6, fun v_a z a7 e7 ⟨v1, a1', e1', ho, ok7, W_a, L_a⟩ => ?_⟩; cases ho; intro p_t_text; refine ⟨fun _ _ => ⟨ok7, by decide, by decide⟩, fun t_text z a8 e8 ⟨v1, a1', e1', ho, ok8, W_text, sz_t_text⟩ => ?_⟩; cases ho; intro p_c_args; refine ⟨fun _ _ => ⟨ok8, by decide⟩, fun c_args z a9 e9 ⟨v1, a1', e1', ho, ok9, W_args, lo_c_args, hi_c_args⟩ => ?_⟩; cases ho; refine ⟨⟨rfl, rc_init lo_c_args ok9⟩, fun _ _ => rf_init, fun m_args X_args k_args z a10 e10 v_k v_f v_n v_p v_l v_t v_a t_text ⟨hc, hi_args⟩ => ?_⟩; have hc : ([.i v_k, .i v_f, .i v_n, .i v_p, .i v_l, .i v_t, .i v_a, .s t_text] : List U) = _ := hc; cases hc; have hi_args : rcore numR m_args k_args z a10 e10 c_args _ a9 e9 := hi_args; obtain rfl : z = _ := rc_b hi_args; have ok10 := rc_ok hi_args; refine ⟨fun hk => ?_, fun hk => ?_⟩
 ·skip
  intro p_u; refine ⟨fun _ _ => rc_ok hi_args, fun u z ax ex ⟨v1, a1', e1', ho, okx, Wx, Lx⟩ => ?_⟩; cases ho; intro A0 C0; obtain ⟨r1, r2, r3⟩ := rc_room hi_args hk (by omega) 8 (by decide); exact ⟨r1, r2, r3, ⟨rfl, rc_next hi_args hk okx Wx⟩, fun w ⟨⟨_, f⟩, _⟩ => rf_next (R := numR) f Wx trivial trivial, by show (c_args - (k_args + 1)).toNat < (c_args - k_args).toNat; omega, trivial⟩
 have hst_args : k_args < c_args → ¬ e10 = 0 := fun h => absurd h hk
 obtain ⟨ys_args, Y_args⟩ := rc_end hi_args hst_args; have V_args : Reads (Rel z a8 e8) (pList 8 pNum) (Rel z a10 e10) ys_args := by rw [pList_eq]; exact Reads.bind W_args Y_args
 intro p_c_sights; refine ⟨fun _ _ => ⟨ok10, by decide⟩, fun c_sights z a11 e11 ⟨v1, a1', e1', ho, ok11, W_sights, lo_c_sights, hi_c_sights⟩ => ?_⟩; cases ho; refine ⟨⟨rfl, rc_init lo_c_sights ok11⟩, fun _ _ => rf_init, fun m_sights X_sights k_sights z a12 e12 v_k v_f v_n v_p v_l v_t v_a t_text ⟨hc, hi_sights⟩ => ?_⟩; have hc : ([.i v_k, .i v_f, .i v_n, .i v_p, .i v_l, .i v_t, .i v_a, .s t_text] : List U) = _ := hc; cases hc; have hi_sights : rcore sightR m_sights k_sights z a12 e12 c_sights _ a11 e11 := hi_sights; obtain rfl : z = _ := rc_b hi_sights; have ok12 := rc_ok hi_sights; refine ⟨fun hk => ?_, fun hk => ?_⟩
 ·skip
  intro p_x; refine ⟨fun _ _ => rc_ok hi_sights, fun q0 q1 q2 q3 q4 q5 q6 q7 q8 q9 q10 q11 q12 q13 q14 q15 q16 q17 q18 q19 z ax ex ⟨yx, a1', e1', ho, okx, Wx⟩ => ?_⟩; have ho : ([U.i ex, .i ax, .s z] : List U) = _ := ho; cases ho; intro A0 C0; obtain ⟨r1, r2, r3⟩ := rc_room hi_sights hk (by omega) 160 (by decide); refine ⟨r1, r2, r3, ⟨rfl, rc_next hi_sights hk okx Wx⟩, fun w ⟨⟨_, f⟩, ⟨x, a2', e2', q, P, Lx, Hx⟩⟩ => ?_, by show (c_sights - (k_sights + 1)).toNat < (c_sights - k_sights).toNat; omega, trivial⟩; cases q; exact rf_next (R := sightR) f P Hx Lx
 have hst_sights : k_sights < c_sights → ¬ e12 = 0 := fun h => absurd h hk
 obtain ⟨ys_sights, Y_sights⟩ := rc_end hi_sights hst_sights; have V_sights : Reads (Rel z a10 e10) (pList 1 pSight) (Rel z a12 e12) ys_sights := by rw [pList_eq]; exact Reads.bind W_sights Y_sights
 intro p_c_proofs; refine ⟨fun _ _ => ⟨ok12, by decide⟩, fun c_proofs z a13 e13 ⟨v1, a1', e1', ho, ok13, W_proofs, lo_c_proofs, hi_c_proofs⟩ => ?_⟩; cases ho; refine ⟨⟨rfl, rc_init lo_c_proofs ok13⟩, fun _ _ => rf_init, fun m_proofs X_proofs k_proofs z a14 e14 v_k v_f v_n v_p v_l v_t v_a t_text ⟨hc, hi_proofs⟩ => ?_⟩; have hc : ([.i v_k, .i v_f, .i v_n, .i v_p, .i v_l, .i v_t, .i v_a, .s t_text] : List U) = _ := hc; cases hc; have hi_proofs : rcore proofR m_proofs k_proofs z a14 e14 c_proofs _ a13 e13 := hi_proofs; obtain rfl : z = _ := rc_b hi_proofs; have ok14 := rc_ok hi_proofs; refine ⟨fun hk => ?_, fun hk => ?_⟩
 ·skip
  intro p_x; refine ⟨fun _ _ => rc_ok hi_proofs, fun q0 q1 q2 q3 q4 q5 z ax ex ⟨yx, a1', e1', ho, okx, Wx⟩ => ?_⟩; have ho : ([U.i ex, .i ax, .s z] : List U) = _ := ho; cases ho; intro A0 C0; obtain ⟨r1, r2, r3⟩ := rc_room hi_proofs hk (by omega) 64 (by decide); refine ⟨r1, r2, r3, ⟨rfl, rc_next hi_proofs hk okx Wx⟩, fun w ⟨⟨_, f⟩, ⟨x, a2', e2', q, P, Lx, Hx⟩⟩ => ?_, by show (c_proofs - (k_proofs + 1)).toNat < (c_proofs - k_proofs).toNat; omega, trivial⟩; cases q; exact rf_next (R := proofR) f P Hx Lx
 have hst_proofs : k_proofs < c_proofs → ¬ e14 = 0 := fun h => absurd h hk
 obtain ⟨ys_proofs, Y_proofs⟩ := rc_end hi_proofs hst_proofs; have V_proofs : Reads (Rel z a12 e12) (pList 1 pProof) (Rel z a14 e14) ys_proofs := by rw [pList_eq]; exact Reads.bind W_proofs Y_proofs
 intro A_args C_args A_sights C_sights A_proofs C_proofs; refine ⟨⟨⟨v_k, v_f, v_n, v_p, v_l, v_t, v_a, t_text.data.toList, ys_args, none, 0, ys_sights, none, 0, ys_proofs, none, 0⟩, a14, e14, rfl, ok14, Reads.bind W_k (Reads.bind W_f (Reads.bind W_n (Reads.bind W_p (Reads.bind W_l (Reads.bind W_t (Reads.bind W_a (Reads.bind W_text (Reads.bind V_args (Reads.bind V_sights (Reads.bind V_proofs (Reads.ok _ _)))))))))))⟩, fun w hw => ?_⟩; obtain ⟨⟨⟨⟨⟨⟨⟨⟨⟨⟨⟨⟨⟨⟨⟨⟨⟨_, _⟩, _⟩, _⟩, _⟩, _⟩, _⟩, _⟩, _⟩, _⟩, f_args⟩, _⟩, f_sights⟩, _⟩, f_proofs⟩, o_args⟩, o_sights⟩, o_proofs⟩ := hw; have f_args : rfact numR lim_num w m_args X_args z a10 e10 z a9 e9 := f_args; obtain ⟨l_args, n_args, le_args, xq_args, Q_args, H_args⟩ := rf_end hi_args hst_args f_args; subst n_args xq_args; have R_args := Rd.of_row o_args; have S_args : l_args.length ≤ maxLen := Nat.le_trans (by omega : _ ≤ 1000) (by decide); have V2_args : Reads (Rel z a8 e8) (pList 8 pNum) (Rel z a10 e10) (l_args.map numR.strip) := by rw [pList_eq]; exact Reads.bind W_args Q_args
 rw [show l_args.map numR.strip = l_args from List.map_id' l_args] at V2_args; have f_sights : rfact sightR lim_sight w m_sights X_sights z a12 e12 z a11 e11 := f_sights; obtain ⟨l_sights, n_sights, le_sights, xq_sights, Q_sights, H_sights⟩ := rf_end hi_sights hst_sights f_sights; subst n_sights xq_sights; have R_sights := Rd.of_row o_sights; have S_sights : l_sights.length ≤ maxLen := Nat.le_trans (by omega : _ ≤ 1000) (by decide); have V2_sights : Reads (Rel z a10 e10) (pList 1 pSight) (Rel z a12 e12) (l_sights.map sightR.strip) := by rw [pList_eq]; exact Reads.bind W_sights Q_sights
 have f_proofs : rfact proofR lim_proof w m_proofs X_proofs z a14 e14 z a13 e13 := f_proofs; obtain ⟨l_proofs, n_proofs, le_proofs, xq_proofs, Q_proofs, H_proofs⟩ := rf_end hi_proofs hst_proofs f_proofs; subst n_proofs xq_proofs; have R_proofs := Rd.of_row o_proofs; have S_proofs : l_proofs.length ≤ maxLen := Nat.le_trans (by omega : _ ≤ 1000) (by decide); have V2_proofs : Reads (Rel z a12 e12) (pList 1 pProof) (Rel z a14 e14) (l_proofs.map proofR.strip) := by rw [pList_eq]; exact Reads.bind W_proofs Q_proofs
 have b_text := bs_back t_text; exact ⟨⟨v_k, v_f, v_n, v_p, v_l, v_t, v_a, t_text.data.toList, l_args, A_args, C_args, l_sights, A_sights, C_sights, l_proofs, A_proofs, C_proofs⟩, a14, e14, (by simp only [txR, b_text]; rfl), Reads.bind W_k (Reads.bind W_f (Reads.bind W_n (Reads.bind W_p (Reads.bind W_l (Reads.bind W_t (Reads.bind W_a (Reads.bind W_text (Reads.bind V2_args (Reads.bind V2_sights (Reads.bind V2_proofs (Reads.ok _ _))))))))))), (by
   show txM _ ≤ 7300; have s_sights := sumL_le (f := sightM) (c := 60) (l := l_sights) (fun x hx => (H_sights x hx).2); have s_proofs := sumL_le (f := proofM) (c := 5000) (l := l_proofs) (fun x hx => (H_proofs x hx).2); have z_text := size_list t_text; dsimp only [txM]; omega), ⟨ints_of R_args, R_sights, R_proofs, ⟨S_args, S_sights, S_proofs⟩, (fun x hx => (H_sights x hx).1), (fun x hx => (H_proofs x hx).1)⟩⟩
def lim_block : BlockD → Prop := fun x => blockM x ≤ 117000
def cfg_rblock : Cfg := { con := [(92, 0), (147, 0), (104, 0), (110, 0)], loops := [(5, { slots := [5], blks := [0, 3], rows := [100201], extra := [.var 18, .var 19, .var 20, .var 21, .var 5, .var 6, .var 7, .var 8, .var 9, .var 10, .var 11, .var 12, .var 13] }), (11, { slots := [7], blks := [0, 3], rows := [100202], extra := [.var 38, .var 39, .var 40, .var 41, .var 28, .var 29, .var 30, .var 31, .var 32, .var 33, .var 34, .var 35, .var 36] })], lents := [(92, [(0, 122)]), (147, [(0, 122)]), (104, [(0, 122)]), (110, [(0, 122)])], mine := [(0, 122)], rcells := [(3, 9, 94), (3, 10, 99)] }
def vcd_rblock : { v : VC // vcOf Tryz.prog cfg_rblock 194 = v } := by refine ⟨?v, ?h⟩; rotate_left; conv => lhs; reduce
theorem vce_rblock : vcOf Tryz.prog cfg_rblock 194 = vcd_rblock.1 := vcd_rblock.2
set_option linter.unusedVariables false in
theorem rblock_ok : KeepsL Tryz.prog 194 (refC blockR lim_block) cfg_rblock.mine := by
 refine keepsL_v Tryz.func194 cfg_rblock vce_rblock [.p, .s, .i, .i] (refC blockR lim_block) [(92, (refC headerR lim_header)), (147, RUpToS), (104, (refC txR lim_tx)), (110, (refC guiltR lim_guilt))] ⟨rheader_ok, rupto_ok, rrtx_ok, rguilt_ok, trivial⟩ (by kernel_rfl) (fun _ _ _ h => h) ?_; intro x0 z a0 e0 w hp; refine ⟨[(5, rloop txR lim_tx 9), (11, rloop guiltR lim_guilt 9)], vc_use ?Q ?h ?g⟩
 case h => intro O C s I b; conv => lhs; reduce
 dsimp only [std]; simp only [ctrOf, invOf, List.lookup, Nat.reduceBEq, Option.getD_some, Int.reduceOfNat, Int.reduceNegSucc]; have ok0 : okR z a0 := hp; intro p_header; refine ⟨fun _ _ => ok0, fun l_header_0 l_header_1 l_header_2 l_header_3 l_header_4 l_header_5 l_header_6 l_header_7 l_header_8 z a1 e1 ⟨y_header, a1', e1', ho, ok1, W_header⟩ => ?_⟩; have ho : ([U.i e1, .i a1, .s z] : List U) = _ := ho; cases ho; intro p_c_txs; refine ⟨fun _ _ => ⟨ok1, by decide⟩, fun c_txs z a2 e2 ⟨v1, a1', e1', ho, ok2, W_txs, lo_c_txs, hi_c_txs⟩ => ?_⟩; cases ho; refine ⟨⟨rfl, rc_init lo_c_txs ok2⟩, fun _ _ => rf_init, fun m_txs X_txs k_txs z a3 e3 l_header_0 l_header_1 l_header_2 l_header_3 l_header_4 l_header_5 l_header_6 l_header_7 l_header_8 ⟨hc, hi_txs⟩ => ?_⟩; have hc : ([.i l_header_0, .i l_header_1, .i l_header_2, .i l_header_3, .i l_header_4, .i l_header_5, .i l_header_6, .i l_header_7, .i l_header_8] : List U) = _ := hc; cases hc; have hi_txs : rcore txR m_txs k_txs z a3 e3 c_txs _ a2 e2 := hi_txs; obtain rfl : z = _ := rc_b hi_txs; have ok3 := rc_ok hi_txs; refine ⟨fun hk => ?_, fun hk => ?_⟩
 ·skip
  intro p_x; refine ⟨fun _ _ => rc_ok hi_txs, fun q0 q1 q2 q3 q4 q5 q6 q7 q8 q9 q10 q11 q12 q13 q14 q15 q16 z ax ex ⟨yx, a1', e1', ho, okx, Wx⟩ => ?_⟩; have ho : ([U.i ex, .i ax, .s z] : List U) = _ := ho; cases ho; intro A0 C0; obtain ⟨r1, r2, r3⟩ := rc_room hi_txs hk (by omega) 144 (by decide); refine ⟨r1, r2, r3, ⟨rfl, rc_next hi_txs hk okx Wx⟩, fun w ⟨⟨_, f⟩, ⟨x, a2', e2', q, P, Lx, Hx⟩⟩ => ?_, by show (c_txs - (k_txs + 1)).toNat < (c_txs - k_txs).toNat; omega, trivial⟩; cases q; exact rf_next (R := txR) f P Hx Lx
 have hst_txs : k_txs < c_txs → ¬ e3 = 0 := fun h => absurd h hk
 obtain ⟨ys_txs, Y_txs⟩ := rc_end hi_txs hst_txs; have V_txs : Reads (Rel z a1 e1) (pList 16 pTx) (Rel z a3 e3) ys_txs := by rw [pList_eq]; exact Reads.bind W_txs Y_txs
 intro p_c_guilts; refine ⟨fun _ _ => ⟨ok3, by decide⟩, fun c_guilts z a4 e4 ⟨v1, a1', e1', ho, ok4, W_guilts, lo_c_guilts, hi_c_guilts⟩ => ?_⟩; cases ho; refine ⟨⟨rfl, rc_init lo_c_guilts ok4⟩, fun _ _ => rf_init, fun m_guilts X_guilts k_guilts z a5 e5 l_header_0 l_header_1 l_header_2 l_header_3 l_header_4 l_header_5 l_header_6 l_header_7 l_header_8 ⟨hc, hi_guilts⟩ => ?_⟩; have hc : ([.i l_header_0, .i l_header_1, .i l_header_2, .i l_header_3, .i l_header_4, .i l_header_5, .i l_header_6, .i l_header_7, .i l_header_8] : List U) = _ := hc; cases hc; have hi_guilts : rcore guiltR m_guilts k_guilts z a5 e5 c_guilts _ a4 e4 := hi_guilts; obtain rfl : z = _ := rc_b hi_guilts; have ok5 := rc_ok hi_guilts; refine ⟨fun hk => ?_, fun hk => ?_⟩
 ·skip
  intro p_x; refine ⟨fun _ _ => rc_ok hi_guilts, fun q0 q1 q2 q3 q4 q5 q6 q7 q8 q9 q10 q11 z ax ex ⟨yx, a1', e1', ho, okx, Wx⟩ => ?_⟩; have ho : ([U.i ex, .i ax, .s z] : List U) = _ := ho; cases ho; intro A0 C0; obtain ⟨r1, r2, r3⟩ := rc_room hi_guilts hk (by omega) 96 (by decide); refine ⟨r1, r2, r3, ⟨rfl, rc_next hi_guilts hk okx Wx⟩, fun w ⟨⟨_, f⟩, ⟨x, a2', e2', q, P, Lx, Hx⟩⟩ => ?_, by show (c_guilts - (k_guilts + 1)).toNat < (c_guilts - k_guilts).toNat; omega, trivial⟩; cases q; exact rf_next (R := guiltR) f P Hx Lx
 have hst_guilts : k_guilts < c_guilts → ¬ e5 = 0 := fun h => absurd h hk
 obtain ⟨ys_guilts, Y_guilts⟩ := rc_end hi_guilts hst_guilts; have V_guilts : Reads (Rel z a3 e3) (pList 4 pGuilt) (Rel z a5 e5) ys_guilts := by rw [pList_eq]; exact Reads.bind W_guilts Y_guilts
 intro A_txs C_txs A_guilts C_guilts; refine ⟨⟨⟨y_header, ys_txs, none, 0, ys_guilts, none, 0⟩, a5, e5, rfl, ok5, Reads.bind W_header (Reads.bind V_txs (Reads.bind V_guilts (Reads.ok _ _)))⟩, fun w hw => ?_⟩; obtain ⟨⟨⟨⟨⟨⟨⟨_, ⟨x_header, a2_header, e2_header, q_header, P_header, L_header, H_header⟩⟩, _⟩, f_txs⟩, _⟩, f_guilts⟩, o_txs⟩, o_guilts⟩ := hw; cases q_header; have f_txs : rfact txR lim_tx w m_txs X_txs z a3 e3 z a2 e2 := f_txs; obtain ⟨l_txs, n_txs, le_txs, xq_txs, Q_txs, H_txs⟩ := rf_end hi_txs hst_txs f_txs; subst n_txs xq_txs; have R_txs := Rd.of_row o_txs; have S_txs : l_txs.length ≤ maxLen := Nat.le_trans (by omega : _ ≤ 1000) (by decide); have V2_txs : Reads (Rel z a1 e1) (pList 16 pTx) (Rel z a3 e3) (l_txs.map txR.strip) := by rw [pList_eq]; exact Reads.bind W_txs Q_txs
 have f_guilts : rfact guiltR lim_guilt w m_guilts X_guilts z a5 e5 z a4 e4 := f_guilts; obtain ⟨l_guilts, n_guilts, le_guilts, xq_guilts, Q_guilts, H_guilts⟩ := rf_end hi_guilts hst_guilts f_guilts; subst n_guilts xq_guilts; have R_guilts := Rd.of_row o_guilts; have S_guilts : l_guilts.length ≤ maxLen := Nat.le_trans (by omega : _ ≤ 1000) (by decide); have V2_guilts : Reads (Rel z a3 e3) (pList 4 pGuilt) (Rel z a5 e5) (l_guilts.map guiltR.strip) := by rw [pList_eq]; exact Reads.bind W_guilts Q_guilts
 rw [show l_guilts.map guiltR.strip = l_guilts from List.map_id' l_guilts] at V2_guilts; exact ⟨⟨x_header, l_txs, A_txs, C_txs, l_guilts, A_guilts, C_guilts⟩, a5, e5, rfl, Reads.bind P_header (Reads.bind V2_txs (Reads.bind V2_guilts (Reads.ok _ _))), (by
   show blockM _ ≤ 117000; have s_txs := sumL_le (f := txM) (c := 7300) (l := l_txs) (fun x hx => (H_txs x hx).2); have s_guilts := sumL_le (f := guiltM) (c := 15) (l := l_guilts) (fun x hx => Nat.le_refl _); dsimp only [blockM, headerM]; omega), ⟨H_header, R_txs, R_guilts, ⟨S_txs, S_guilts⟩, (fun x hx => (H_txs x hx).1), (fun x hx => (H_guilts x hx).1)⟩⟩
def lim_motion : MotionD → Prop := fun x => motionM x ≤ 117100
def cfg_rmotion : Cfg := { con := [(67, 0), (194, 0), (147, 0), (80, 0)], loops := [(7, { slots := [5], blks := [0, 3], rows := [100205], extra := [.var 34, .var 35, .var 36, .var 37, .var 5, .var 10, .var 15, .var 16, .var 17, .var 18, .var 19, .var 20, .var 21, .var 22, .var 23, .var 24, .var 25, .var 26, .var 27, .var 28, .var 29] })], lents := [(67, [(0, 122)]), (194, [(0, 122)]), (147, [(0, 122)]), (80, [(0, 122)])], mine := [(0, 122)], rcells := [(3, 13, 62)] }
def vcd_rmotion : { v : VC // vcOf Tryz.prog cfg_rmotion 231 = v } := by refine ⟨?v, ?h⟩; rotate_left; conv => lhs; reduce
theorem vce_rmotion : vcOf Tryz.prog cfg_rmotion 231 = vcd_rmotion.1 := vcd_rmotion.2
set_option linter.unusedVariables false in
theorem rmotion_ok : KeepsL Tryz.prog 231 (refC motionR lim_motion) cfg_rmotion.mine := by
 refine keepsL_v Tryz.func231 cfg_rmotion vce_rmotion [.p, .s, .i, .i] (refC motionR lim_motion) [(67, RNumS), (194, (refC blockR lim_block)), (147, RUpToS), (80, (refC certR lim_cert))] ⟨rnum_ok, rblock_ok, rupto_ok, rcert_ok, trivial⟩ (by kernel_rfl) (fun _ _ _ h => h) ?_; intro x0 z a0 e0 w hp; refine ⟨[(7, rloop certR lim_cert 17)], vc_use ?Q ?h ?g⟩
 case h => intro O C s I b; conv => lhs; reduce
 dsimp only [std]; simp only [ctrOf, invOf, List.lookup, Nat.reduceBEq, Option.getD_some, Int.reduceOfNat, Int.reduceNegSucc]; have ok0 : okR z a0 := hp; intro p_v_r; refine ⟨fun _ _ => ok0, fun v_r z a1 e1 ⟨v1, a1', e1', ho, ok1, W_r, L_r⟩ => ?_⟩; cases ho; intro p_v_f; refine ⟨fun _ _ => ok1, fun v_f z a2 e2 ⟨v1, a1', e1', ho, ok2, W_f, L_f⟩ => ?_⟩; cases ho; intro p_block; refine ⟨fun _ _ => ok2, fun l_block_0 l_block_1 l_block_2 l_block_3 l_block_4 l_block_5 l_block_6 l_block_7 l_block_8 l_block_9 l_block_10 l_block_11 l_block_12 l_block_13 l_block_14 z a3 e3 ⟨y_block, a1', e1', ho, ok3, W_block⟩ => ?_⟩; have ho : ([U.i e3, .i a3, .s z] : List U) = _ := ho; cases ho; intro p_c_basis; refine ⟨fun _ _ => ⟨ok3, by decide⟩, fun c_basis z a4 e4 ⟨v1, a1', e1', ho, ok4, W_basis, lo_c_basis, hi_c_basis⟩ => ?_⟩; cases ho; refine ⟨⟨rfl, rc_init lo_c_basis ok4⟩, fun _ _ => rf_init, fun m_basis X_basis k_basis z a5 e5 v_r v_f l_block_0 l_block_1 l_block_2 l_block_3 l_block_4 l_block_5 l_block_6 l_block_7 l_block_8 l_block_9 l_block_10 l_block_11 l_block_12 l_block_13 l_block_14 ⟨hc, hi_basis⟩ => ?_⟩; have hc : ([.i v_r, .i v_f, .i l_block_0, .i l_block_1, .i l_block_2, .i l_block_3, .i l_block_4, .i l_block_5, .i l_block_6, .i l_block_7, .i l_block_8, .p l_block_9, .n l_block_10, .n l_block_11, .p l_block_12, .n l_block_13, .n l_block_14] : List U) = _ := hc; cases hc; have hi_basis : rcore certR m_basis k_basis z a5 e5 c_basis _ a4 e4 := hi_basis; obtain rfl : z = _ := rc_b hi_basis; have ok5 := rc_ok hi_basis; refine ⟨fun hk => ?_, fun hk => ?_⟩
 ·skip
  intro p_x; refine ⟨fun _ _ => rc_ok hi_basis, fun q0 q1 q2 q3 q4 q5 q6 q7 z ax ex ⟨yx, a1', e1', ho, okx, Wx⟩ => ?_⟩; have ho : ([U.i ex, .i ax, .s z] : List U) = _ := ho; cases ho; intro A0 C0; obtain ⟨r1, r2, r3⟩ := rc_room hi_basis hk (by omega) 64 (by decide); refine ⟨r1, r2, r3, ⟨rfl, rc_next hi_basis hk okx Wx⟩, fun w ⟨⟨_, f⟩, ⟨x, a2', e2', q, P, Lx, Hx⟩⟩ => ?_, by show (c_basis - (k_basis + 1)).toNat < (c_basis - k_basis).toNat; omega, trivial⟩; cases q; exact rf_next (R := certR) f P Hx Lx
 have hst_basis : k_basis < c_basis → ¬ e5 = 0 := fun h => absurd h hk
 obtain ⟨ys_basis, Y_basis⟩ := rc_end hi_basis hst_basis; have V_basis : Reads (Rel z a3 e3) (pList 1 pCert) (Rel z a5 e5) ys_basis := by rw [pList_eq]; exact Reads.bind W_basis Y_basis
 intro A_basis C_basis; refine ⟨⟨⟨v_r, v_f, y_block, ys_basis, none, 0⟩, a5, e5, rfl, ok5, Reads.bind W_r (Reads.bind W_f (Reads.bind W_block (Reads.bind V_basis (Reads.ok _ _))))⟩, fun w hw => ?_⟩; obtain ⟨⟨⟨⟨⟨⟨_, _⟩, _⟩, ⟨x_block, a2_block, e2_block, q_block, P_block, L_block, H_block⟩⟩, _⟩, f_basis⟩, o_basis⟩ := hw; cases q_block; have f_basis : rfact certR lim_cert w m_basis X_basis z a5 e5 z a4 e4 := f_basis; obtain ⟨l_basis, n_basis, le_basis, xq_basis, Q_basis, H_basis⟩ := rf_end hi_basis hst_basis f_basis; subst n_basis xq_basis; have R_basis := Rd.of_row o_basis; have S_basis : l_basis.length ≤ maxLen := Nat.le_trans (by omega : _ ≤ 1000) (by decide); have V2_basis : Reads (Rel z a3 e3) (pList 1 pCert) (Rel z a5 e5) (l_basis.map certR.strip) := by rw [pList_eq]; exact Reads.bind W_basis Q_basis
 exact ⟨⟨v_r, v_f, x_block, l_basis, A_basis, C_basis⟩, a5, e5, rfl, Reads.bind W_r (Reads.bind W_f (Reads.bind P_block (Reads.bind V2_basis (Reads.ok _ _)))), (by
   show motionM _ ≤ 117100; have s_basis := sumL_le (f := certM) (c := 14) (l := l_basis) (fun x hx => (H_basis x hx).2); have s_block : blockM x_block ≤ 117000 := L_block; dsimp only [motionM]; omega), ⟨H_block, R_basis, S_basis, (fun x hx => (H_basis x hx).1)⟩⟩
def lim_known : KnownD → Prop := fun x => knownM x ≤ 117100
def cfg_rknown : Cfg := { con := [(80, 0), (194, 0)], lents := [(80, [(0, 122)]), (194, [(0, 122)])], mine := [(0, 122)] }
def vcd_rknown : { v : VC // vcOf Tryz.prog cfg_rknown 232 = v } := by refine ⟨?v, ?h⟩; rotate_left; conv => lhs; reduce
theorem vce_rknown : vcOf Tryz.prog cfg_rknown 232 = vcd_rknown.1 := vcd_rknown.2
set_option linter.unusedVariables false in
theorem rknown_ok : KeepsL Tryz.prog 232 (refC knownR lim_known) cfg_rknown.mine := by
 refine keepsL_v Tryz.func232 cfg_rknown vce_rknown [.p, .s, .i, .i] (refC knownR lim_known) [(80, (refC certR lim_cert)), (194, (refC blockR lim_block))] ⟨rcert_ok, rblock_ok, trivial⟩ (by kernel_rfl) (fun _ _ _ h => h) ?_; intro x0 z a0 e0 w hp; refine ⟨[], vc_use ?Q ?h ?g⟩
 case h => intro O C s I b; conv => lhs; reduce
 dsimp only [std]; simp only [ctrOf, invOf, List.lookup, Nat.reduceBEq, Option.getD_some, Int.reduceOfNat, Int.reduceNegSucc]; have ok0 : okR z a0 := hp; intro p_cert; refine ⟨fun _ _ => ok0, fun l_cert_0 l_cert_1 l_cert_2 l_cert_3 l_cert_4 l_cert_5 l_cert_6 l_cert_7 z a1 e1 ⟨y_cert, a1', e1', ho, ok1, W_cert⟩ => ?_⟩; have ho : ([U.i e1, .i a1, .s z] : List U) = _ := ho; cases ho; intro p_block; refine ⟨fun _ _ => ok1, fun l_block_0 l_block_1 l_block_2 l_block_3 l_block_4 l_block_5 l_block_6 l_block_7 l_block_8 l_block_9 l_block_10 l_block_11 l_block_12 l_block_13 l_block_14 z a2 e2 ⟨y_block, a1', e1', ho, ok2, W_block⟩ => ?_⟩; have ho : ([U.i e2, .i a2, .s z] : List U) = _ := ho; cases ho; refine ⟨⟨⟨y_cert, y_block⟩, a2, e2, rfl, ok2, Reads.bind W_cert (Reads.bind W_block (Reads.ok _ _))⟩, fun w hw => ?_⟩; obtain ⟨⟨_, ⟨x_cert, a2_cert, e2_cert, q_cert, P_cert, L_cert, H_cert⟩⟩, ⟨x_block, a2_block, e2_block, q_block, P_block, L_block, H_block⟩⟩ := hw; cases q_cert; cases q_block; exact ⟨⟨x_cert, x_block⟩, a2, e2, rfl, Reads.bind P_cert (Reads.bind P_block (Reads.ok _ _)), (by
   show knownM _ ≤ 117100; have s_cert : certM x_cert ≤ 14 := L_cert; have s_block : blockM x_block ≤ 117000 := L_block; dsimp only [knownM]; omega), ⟨H_cert, H_block⟩⟩
def lim_record : RecordD → Prop := fun x => recordM x ≤ 240000
theorem lim_motionZ : motionM motionZ ≤ 117100 := by decide
theorem lim_knownZ : knownM knownZ ≤ 117100 := by decide
def cfg_rrecord : Cfg := { con := [(67, 0), (74, 0), (231, 0), (232, 0)], lents := [(67, [(0, 122)]), (74, [(0, 122)]), (231, [(0, 122)]), (232, [(0, 122)])], mine := [(0, 122)] }
def vcd_rrecord : { v : VC // vcOf Tryz.prog cfg_rrecord 141 = v } := by refine ⟨?v, ?h⟩; rotate_left; conv => lhs; reduce
theorem vce_rrecord : vcOf Tryz.prog cfg_rrecord 141 = vcd_rrecord.1 := vcd_rrecord.2
set_option linter.unusedVariables false in
theorem rrecord_ok : KeepsL Tryz.prog 141 (refC recordR lim_record) cfg_rrecord.mine := by
 refine keepsL_v Tryz.func141 cfg_rrecord vce_rrecord [.p, .s, .i, .i] (refC recordR lim_record) [(67, RNumS), (74, (refC voteR lim_vote)), (231, (refC motionR lim_motion)), (232, (refC knownR lim_known))] ⟨rnum_ok, rvote_ok, rmotion_ok, rknown_ok, trivial⟩ (by kernel_rfl) (fun _ _ _ h => h) ?_; intro x0 z a0 e0 w hp; refine ⟨[], vc_use ?Q ?h ?g⟩
 case h => intro O C s I b; conv => lhs; reduce
 dsimp only [std]; simp only [ctrOf, invOf, List.lookup, Nat.reduceBEq, Option.getD_some, Int.reduceOfNat, Int.reduceNegSucc]; have ok0 : okR z a0 := hp; intro p_k; refine ⟨fun _ _ => ok0, fun k z a1 e1 ⟨v1, a1', e1', ho, ok1, W_k, L_k⟩ => ?_⟩; cases ho; refine ⟨fun h1 => ?_, fun h1 => ?_⟩
 ·skip
  intro p_vote; refine ⟨fun _ _ => ok1, fun l_0 l_1 l_2 l_3 l_4 l_5 z a2 e2 ⟨y, a1', e1', ho, ok2, W⟩ => ?_⟩; have ho : ([U.i e2, .i a2, .s z] : List U) = _ := ho; cases ho; refine ⟨fun h => absurd h (by omega), fun h2 => ⟨fun h => absurd h (by omega), fun h3 => ⟨fun h => absurd h (by omega), fun h4 => ?_⟩⟩⟩; refine ⟨⟨⟨k, y, motionZ, knownZ⟩, a2, e2, rfl, ok2, Reads.bind W_k (show Reads _ (if k = 1 then _ else _) _ _ from by rw [if_pos h1]; exact Reads.bind W (Reads.ok _ _))⟩, fun w hw => ?_⟩; obtain ⟨⟨_, _⟩, ⟨x, a2', e2', q, P, Lx, Hx⟩⟩ := hw; cases q; exact ⟨⟨k, x, motionZ, knownZ⟩, a2, e2, rfl, Reads.bind W_k (show Reads _ (if k = 1 then _ else _) _ _ from by rw [if_pos h1]; exact Reads.bind P (Reads.ok _ _)), (by
    have m1 := lim_motionZ; have m2 := lim_knownZ; show recordM _ ≤ 240000; dsimp only [recordM, voteM]; omega), ⟨⟨Hx, motionZ_held _ _, knownZ_held _ _⟩, fun _ => ⟨rfl, rfl⟩⟩⟩
 refine ⟨fun h2 => ?_, fun h2 => ?_⟩
 ·skip
  intro p_motion; refine ⟨fun _ _ => ok1, fun l_0 l_1 l_2 l_3 l_4 l_5 l_6 l_7 l_8 l_9 l_10 l_11 l_12 l_13 l_14 l_15 l_16 l_17 l_18 l_19 z a2 e2 ⟨y, a1', e1', ho, ok2, W⟩ => ?_⟩; have ho : ([U.i e2, .i a2, .s z] : List U) = _ := ho; cases ho; refine ⟨fun h => absurd h (by omega), fun h3 => ⟨fun h => absurd h (by omega), fun h4 => ?_⟩⟩; refine ⟨⟨⟨k, voteZ, y, knownZ⟩, a2, e2, rfl, ok2, Reads.bind W_k (show Reads _ (if k = 1 then _ else _) _ _ from by rw [if_neg h1, if_pos h2]; exact Reads.bind W (Reads.ok _ _))⟩, fun w hw => ?_⟩; obtain ⟨⟨_, _⟩, ⟨x, a2', e2', q, P, Lx, Hx⟩⟩ := hw; cases q; exact ⟨⟨k, voteZ, x, knownZ⟩, a2, e2, rfl, Reads.bind W_k (show Reads _ (if k = 1 then _ else _) _ _ from by rw [if_neg h1, if_pos h2]; exact Reads.bind P (Reads.ok _ _)), (by
    have m1 := lim_motionZ; have m2 := lim_knownZ; have m3 : motionM x ≤ 117100 := Lx; show recordM _ ≤ 240000; dsimp only [recordM, voteM]; omega), ⟨⟨voteZ_ok, Hx, knownZ_held _ _⟩, fun hk => absurd hk h1⟩⟩
 refine ⟨fun h3 => ?_, fun h3 => ⟨fun h4 => ?_, fun h4 => ?_⟩⟩
 ·skip
  intro p_known; refine ⟨fun _ _ => ok1, fun l_0 l_1 l_2 l_3 l_4 l_5 l_6 l_7 l_8 l_9 l_10 l_11 l_12 l_13 l_14 l_15 l_16 l_17 l_18 l_19 l_20 l_21 l_22 z a2 e2 ⟨y, a1', e1', ho, ok2, W⟩ => ?_⟩; have ho : ([U.i e2, .i a2, .s z] : List U) = _ := ho; cases ho
  skip
  refine ⟨⟨⟨k, voteZ, motionZ, y⟩, a2, e2, rfl, ok2, Reads.bind W_k (show Reads _ (if k = 1 then _ else _) _ _ from by rw [if_neg h1, if_neg h2, if_pos (Or.inl h3 : k = 3 ∨ k = 4)]; exact Reads.bind W (Reads.ok _ _))⟩, fun w hw => ?_⟩; obtain ⟨⟨_, _⟩, ⟨x, a2', e2', q, P, Lx, Hx⟩⟩ := hw; cases q; exact ⟨⟨k, voteZ, motionZ, x⟩, a2, e2, rfl, Reads.bind W_k (show Reads _ (if k = 1 then _ else _) _ _ from by rw [if_neg h1, if_neg h2, if_pos (Or.inl h3 : k = 3 ∨ k = 4)]; exact Reads.bind P (Reads.ok _ _)), (by
    have m1 := lim_motionZ; have m2 := lim_knownZ; have m3 : knownM x ≤ 117100 := Lx; show recordM _ ≤ 240000; dsimp only [recordM, voteM]; omega), ⟨⟨voteZ_ok, motionZ_held _ _, Hx⟩, fun hk => absurd hk h1⟩⟩
 ·skip
  intro p_known; refine ⟨fun _ _ => ok1, fun l_0 l_1 l_2 l_3 l_4 l_5 l_6 l_7 l_8 l_9 l_10 l_11 l_12 l_13 l_14 l_15 l_16 l_17 l_18 l_19 l_20 l_21 l_22 z a2 e2 ⟨y, a1', e1', ho, ok2, W⟩ => ?_⟩; have ho : ([U.i e2, .i a2, .s z] : List U) = _ := ho; cases ho
  skip
  refine ⟨⟨⟨k, voteZ, motionZ, y⟩, a2, e2, rfl, ok2, Reads.bind W_k (show Reads _ (if k = 1 then _ else _) _ _ from by rw [if_neg h1, if_neg h2, if_pos (Or.inr h4 : k = 3 ∨ k = 4)]; exact Reads.bind W (Reads.ok _ _))⟩, fun w hw => ?_⟩; obtain ⟨⟨_, _⟩, ⟨x, a2', e2', q, P, Lx, Hx⟩⟩ := hw; cases q; exact ⟨⟨k, voteZ, motionZ, x⟩, a2, e2, rfl, Reads.bind W_k (show Reads _ (if k = 1 then _ else _) _ _ from by rw [if_neg h1, if_neg h2, if_pos (Or.inr h4 : k = 3 ∨ k = 4)]; exact Reads.bind P (Reads.ok _ _)), (by
    have m1 := lim_motionZ; have m2 := lim_knownZ; have m3 : knownM x ≤ 117100 := Lx; show recordM _ ≤ 240000; dsimp only [recordM, voteM]; omega), ⟨⟨voteZ_ok, motionZ_held _ _, Hx⟩, fun hk => absurd hk h1⟩⟩
 ·have h34 : ¬ (k = 3 ∨ k = 4) := fun h => h.elim h3 h4
  have V : Reads (Rel z a0 e0) pRecord (Rel z a1 e1) ⟨k, voteZ, motionZ, knownZ⟩ := Reads.bind W_k (show Reads _ (if k = 1 then _ else _) _ _ from by rw [if_neg h1, if_neg h2, if_neg h34]; exact Reads.ok _ _); exact ⟨⟨⟨k, voteZ, motionZ, knownZ⟩, a1, e1, rfl, ok1, V⟩, fun w hw => ⟨⟨k, voteZ, motionZ, knownZ⟩, a1, e1, rfl, V, (by
   have m1 := lim_motionZ; have m2 := lim_knownZ; show recordM _ ≤ 240000; dsimp only [recordM, voteM]; omega), ⟨⟨voteZ_ok, motionZ_held _ _, knownZ_held _ _⟩, fun _ => ⟨rfl, rfl⟩⟩⟩⟩
end Go.Proofs.YtjhaafbbdgjagaaGreat
