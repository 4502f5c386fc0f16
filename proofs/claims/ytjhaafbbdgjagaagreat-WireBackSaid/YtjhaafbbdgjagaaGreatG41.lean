/- Of the texts Gr4, Gr5, St0, St1. -/
import Derived.Test.YtjhaafbbdgjagaaGreatG40
import Derived.Test.YtjhaafbbdgjagaaGreatG39
set_option linter.unusedSimpArgs false
set_option linter.unusedVariables false
namespace Go.Proofs.YtjhaafbbdgjagaaGreat
open Go.RowKit Vc
set_option maxRecDepth 100000
def lim_message : MessageD → Prop := fun x => messageM x ≤ 600000
def cfg_rmessage : Cfg := { con := [(67, 0), (147, 0), (74, 0), (231, 0), (232, 0), (104, 0)], loops := [(7, { slots := [5], blks := [0, 3], rows := [100195], extra := [.var 20, .var 21, .var 22, .var 23, .var 5, .var 10, .var 15] }), (13, { slots := [7], blks := [0, 3], rows := [100196], extra := [.var 34, .var 35, .var 36, .var 37, .var 30, .var 31, .var 32] }), (19, { slots := [9], blks := [0, 3], rows := [100197], extra := [.var 48, .var 49, .var 50, .var 51, .var 44, .var 45, .var 46] }), (25, { slots := [11], blks := [0, 3], rows := [100198], extra := [.var 62, .var 63, .var 64, .var 65, .var 58, .var 59, .var 60] })], lents := [(67, [(0, 122)]), (147, [(0, 122)]), (74, [(0, 122)]), (231, [(0, 122)]), (232, [(0, 122)]), (104, [(0, 122)])], mine := [(0, 122)], rcells := [(3, 3, 42), (3, 4, 59), (3, 5, 64), (3, 6, 94)] }
def vcd_rmessage : { v : VC // vcOf Tryz.prog cfg_rmessage 200 = v } := by refine ⟨?v, ?h⟩; rotate_left; conv => lhs; reduce
theorem vce_rmessage : vcOf Tryz.prog cfg_rmessage 200 = vcd_rmessage.1 := vcd_rmessage.2
set_option linter.unusedVariables false in
theorem rmessage_ok : KeepsL Tryz.prog 200 (refC messageR lim_message) cfg_rmessage.mine := by
 refine keepsL_v Tryz.func200 cfg_rmessage vce_rmessage [.p, .s, .i, .i] (refC messageR lim_message) [(67, RNumS), (147, RUpToS), (74, (refC voteR lim_vote)), (231, (refC motionR lim_motion)), (232, (refC knownR lim_known)), (104, (refC txR lim_tx))] ⟨rnum_ok, rupto_ok, rvote_ok, rmotion_ok, rknown_ok, rrtx_ok, trivial⟩ (by kernel_rfl) (fun _ _ _ h => h) ?_; intro x0 z a0 e0 w hp; refine ⟨[(7, rloop voteR lim_vote 3), (13, rloop motionR lim_motion 3), (19, rloop knownR lim_known 3), (25, rloop txR lim_tx 3)], vc_use ?Q ?h ?g⟩
 case h => intro O C s I b; conv => lhs; reduce
 dsimp only [std]; simp only [ctrOf, invOf, List.lookup, Nat.reduceBEq, Option.getD_some, Int.reduceOfNat, Int.reduceNegSucc]; have ok0 : okR z a0 := hp; intro p_v_f; refine ⟨fun _ _ => ok0, fun v_f z a1 e1 ⟨v1, a1', e1', ho, ok1, W_f, L_f⟩ => ?_⟩; cases ho; intro p_v_t; refine ⟨fun _ _ => ok1, fun v_t z a2 e2 ⟨v1, a1', e1', ho, ok2, W_t, L_t⟩ => ?_⟩; cases ho; intro p_v_h; refine ⟨fun _ _ => ok2, fun v_h z a3 e3 ⟨v1, a1', e1', ho, ok3, W_h, L_h⟩ => ?_⟩; cases ho; intro p_c_votes; refine ⟨fun _ _ => ⟨ok3, by decide⟩, fun c_votes z a4 e4 ⟨v1, a1', e1', ho, ok4, W_votes, lo_c_votes, hi_c_votes⟩ => ?_⟩; cases ho; refine ⟨⟨rfl, rc_init lo_c_votes ok4⟩, fun _ _ => rf_init, fun m_votes X_votes k_votes z a5 e5 v_f v_t v_h ⟨hc, hi_votes⟩ => ?_⟩; have hc : ([.i v_f, .i v_t, .i v_h] : List U) = _ := hc; cases hc; have hi_votes : rcore voteR m_votes k_votes z a5 e5 c_votes _ a4 e4 := hi_votes; obtain rfl : z = _ := rc_b hi_votes; have ok5 := rc_ok hi_votes; refine ⟨fun hk => ⟨fun he => ?_, fun he => ?_⟩, fun hk => ?_⟩
 ·skip
  intro p_x; refine ⟨fun _ _ => rc_ok hi_votes, fun q0 q1 q2 q3 q4 q5 z ax ex ⟨yx, a1', e1', ho, okx, Wx⟩ => ?_⟩; have ho : ([U.i ex, .i ax, .s z] : List U) = _ := ho; cases ho; intro A0 C0; obtain ⟨r1, r2, r3⟩ := rc_room hi_votes hk (by omega) 48 (by decide); refine ⟨r1, r2, r3, ⟨rfl, rc_next hi_votes hk okx Wx⟩, fun w ⟨⟨_, f⟩, ⟨x, a2', e2', q, P, Lx, Hx⟩⟩ => ?_, by show (c_votes - (k_votes + 1)).toNat < (c_votes - k_votes).toNat; omega, trivial⟩; cases q; exact rf_next (R := voteR) f P Hx Lx
 ·have hst_votes : k_votes < c_votes → ¬ e5 = 0 := fun _ => he
  obtain ⟨ys_votes, Y_votes⟩ := rc_end hi_votes hst_votes; have V_votes : Reads (Rel z a3 e3) (pList 512 pVote) (Rel z a5 e5) ys_votes := by rw [pList_eq]; exact Reads.bind W_votes Y_votes
  intro p_c_motions; refine ⟨fun _ _ => ⟨ok5, by decide⟩, fun c_motions z a6 e6 ⟨v1, a1', e1', ho, ok6, W_motions, lo_c_motions, hi_c_motions⟩ => ?_⟩; cases ho; refine ⟨⟨rfl, rc_init lo_c_motions ok6⟩, fun _ _ => rf_init, fun m_motions X_motions k_motions z a7 e7 v_f v_t v_h ⟨hc, hi_motions⟩ => ?_⟩; have hc : ([.i v_f, .i v_t, .i v_h] : List U) = _ := hc; cases hc; have hi_motions : rcore motionR m_motions k_motions z a7 e7 c_motions _ a6 e6 := hi_motions; obtain rfl : z = _ := rc_b hi_motions; have ok7 := rc_ok hi_motions; refine ⟨fun hk => ?_, fun hk => ?_⟩
  ·skip
   intro p_x; refine ⟨fun _ _ => rc_ok hi_motions, fun q0 q1 q2 q3 q4 q5 q6 q7 q8 q9 q10 q11 q12 q13 q14 q15 q16 q17 q18 q19 z ax ex ⟨yx, a1', e1', ho, okx, Wx⟩ => ?_⟩; have ho : ([U.i ex, .i ax, .s z] : List U) = _ := ho; cases ho; intro A0 C0; obtain ⟨r1, r2, r3⟩ := rc_room hi_motions hk (by omega) 160 (by decide); refine ⟨r1, r2, r3, ⟨rfl, rc_next hi_motions hk okx Wx⟩, fun w ⟨⟨_, f⟩, ⟨x, a2', e2', q, P, Lx, Hx⟩⟩ => ?_, by show (c_motions - (k_motions + 1)).toNat < (c_motions - k_motions).toNat; omega, trivial⟩; cases q; exact rf_next (R := motionR) f P Hx Lx
  have hst_motions : k_motions < c_motions → ¬ e7 = 0 := fun h => absurd h hk
  obtain ⟨ys_motions, Y_motions⟩ := rc_end hi_motions hst_motions; have V_motions : Reads (Rel z a5 e5) (pList 2 pMotion) (Rel z a7 e7) ys_motions := by rw [pList_eq]; exact Reads.bind W_motions Y_motions
  intro p_c_knowns; refine ⟨fun _ _ => ⟨ok7, by decide⟩, fun c_knowns z a8 e8 ⟨v1, a1', e1', ho, ok8, W_knowns, lo_c_knowns, hi_c_knowns⟩ => ?_⟩; cases ho; refine ⟨⟨rfl, rc_init lo_c_knowns ok8⟩, fun _ _ => rf_init, fun m_knowns X_knowns k_knowns z a9 e9 v_f v_t v_h ⟨hc, hi_knowns⟩ => ?_⟩; have hc : ([.i v_f, .i v_t, .i v_h] : List U) = _ := hc; cases hc; have hi_knowns : rcore knownR m_knowns k_knowns z a9 e9 c_knowns _ a8 e8 := hi_knowns; obtain rfl : z = _ := rc_b hi_knowns; have ok9 := rc_ok hi_knowns; refine ⟨fun hk => ?_, fun hk => ?_⟩
  ·skip
   intro p_x; refine ⟨fun _ _ => rc_ok hi_knowns, fun q0 q1 q2 q3 q4 q5 q6 q7 q8 q9 q10 q11 q12 q13 q14 q15 q16 q17 q18 q19 q20 q21 q22 z ax ex ⟨yx, a1', e1', ho, okx, Wx⟩ => ?_⟩; have ho : ([U.i ex, .i ax, .s z] : List U) = _ := ho; cases ho; intro A0 C0; obtain ⟨r1, r2, r3⟩ := rc_room hi_knowns hk (by omega) 184 (by decide); refine ⟨r1, r2, r3, ⟨rfl, rc_next hi_knowns hk okx Wx⟩, fun w ⟨⟨_, f⟩, ⟨x, a2', e2', q, P, Lx, Hx⟩⟩ => ?_, by show (c_knowns - (k_knowns + 1)).toNat < (c_knowns - k_knowns).toNat; omega, trivial⟩; cases q; exact rf_next (R := knownR) f P Hx Lx
  have hst_knowns : k_knowns < c_knowns → ¬ e9 = 0 := fun h => absurd h hk
  obtain ⟨ys_knowns, Y_knowns⟩ := rc_end hi_knowns hst_knowns; have V_knowns : Reads (Rel z a7 e7) (pList 2 pKnown) (Rel z a9 e9) ys_knowns := by rw [pList_eq]; exact Reads.bind W_knowns Y_knowns
  intro p_c_txs; refine ⟨fun _ _ => ⟨ok9, by decide⟩, fun c_txs z a10 e10 ⟨v1, a1', e1', ho, ok10, W_txs, lo_c_txs, hi_c_txs⟩ => ?_⟩; cases ho; refine ⟨⟨rfl, rc_init lo_c_txs ok10⟩, fun _ _ => rf_init, fun m_txs X_txs k_txs z a11 e11 v_f v_t v_h ⟨hc, hi_txs⟩ => ?_⟩; have hc : ([.i v_f, .i v_t, .i v_h] : List U) = _ := hc; cases hc; have hi_txs : rcore txR m_txs k_txs z a11 e11 c_txs _ a10 e10 := hi_txs; obtain rfl : z = _ := rc_b hi_txs; have ok11 := rc_ok hi_txs; refine ⟨fun hk => ?_, fun hk => ?_⟩
  ·skip
   intro p_x; refine ⟨fun _ _ => rc_ok hi_txs, fun q0 q1 q2 q3 q4 q5 q6 q7 q8 q9 q10 q11 q12 q13 q14 q15 q16 z ax ex ⟨yx, a1', e1', ho, okx, Wx⟩ => ?_⟩; have ho : ([U.i ex, .i ax, .s z] : List U) = _ := ho; cases ho; intro A0 C0; obtain ⟨r1, r2, r3⟩ := rc_room hi_txs hk (by omega) 144 (by decide); refine ⟨r1, r2, r3, ⟨rfl, rc_next hi_txs hk okx Wx⟩, fun w ⟨⟨_, f⟩, ⟨x, a2', e2', q, P, Lx, Hx⟩⟩ => ?_, by show (c_txs - (k_txs + 1)).toNat < (c_txs - k_txs).toNat; omega, trivial⟩; cases q; exact rf_next (R := txR) f P Hx Lx
  have hst_txs : k_txs < c_txs → ¬ e11 = 0 := fun h => absurd h hk
  obtain ⟨ys_txs, Y_txs⟩ := rc_end hi_txs hst_txs; have V_txs : Reads (Rel z a9 e9) (pList 16 pTx) (Rel z a11 e11) ys_txs := by rw [pList_eq]; exact Reads.bind W_txs Y_txs
  intro A_votes C_votes A_motions C_motions A_knowns C_knowns A_txs C_txs; refine ⟨⟨⟨v_f, v_t, v_h, ys_votes, none, 0, ys_motions, none, 0, ys_knowns, none, 0, ys_txs, none, 0⟩, a11, e11, rfl, ok11, Reads.bind W_f (Reads.bind W_t (Reads.bind W_h (Reads.bind V_votes (Reads.bind V_motions (Reads.bind V_knowns (Reads.bind V_txs (Reads.ok _ _)))))))⟩, fun w hw => ?_⟩; obtain ⟨⟨⟨⟨⟨⟨⟨⟨⟨⟨⟨⟨⟨⟨⟨_, _⟩, _⟩, _⟩, _⟩, f_votes⟩, _⟩, f_motions⟩, _⟩, f_knowns⟩, _⟩, f_txs⟩, o_votes⟩, o_motions⟩, o_knowns⟩, o_txs⟩ := hw; have f_votes : rfact voteR lim_vote w m_votes X_votes z a5 e5 z a4 e4 := f_votes; obtain ⟨l_votes, n_votes, le_votes, xq_votes, Q_votes, H_votes⟩ := rf_end hi_votes hst_votes f_votes; subst n_votes xq_votes; have R_votes := Rd.of_row o_votes; have S_votes : l_votes.length ≤ maxLen := Nat.le_trans (by omega : _ ≤ 1000) (by decide); have V2_votes : Reads (Rel z a3 e3) (pList 512 pVote) (Rel z a5 e5) (l_votes.map voteR.strip) := by rw [pList_eq]; exact Reads.bind W_votes Q_votes
  rw [show l_votes.map voteR.strip = l_votes from List.map_id' l_votes] at V2_votes; have f_motions : rfact motionR lim_motion w m_motions X_motions z a7 e7 z a6 e6 := f_motions; obtain ⟨l_motions, n_motions, le_motions, xq_motions, Q_motions, H_motions⟩ := rf_end hi_motions hst_motions f_motions; subst n_motions xq_motions; have R_motions := Rd.of_row o_motions; have S_motions : l_motions.length ≤ maxLen := Nat.le_trans (by omega : _ ≤ 1000) (by decide); have V2_motions : Reads (Rel z a5 e5) (pList 2 pMotion) (Rel z a7 e7) (l_motions.map motionR.strip) := by rw [pList_eq]; exact Reads.bind W_motions Q_motions
  have f_knowns : rfact knownR lim_known w m_knowns X_knowns z a9 e9 z a8 e8 := f_knowns; obtain ⟨l_knowns, n_knowns, le_knowns, xq_knowns, Q_knowns, H_knowns⟩ := rf_end hi_knowns hst_knowns f_knowns; subst n_knowns xq_knowns; have R_knowns := Rd.of_row o_knowns; have S_knowns : l_knowns.length ≤ maxLen := Nat.le_trans (by omega : _ ≤ 1000) (by decide); have V2_knowns : Reads (Rel z a7 e7) (pList 2 pKnown) (Rel z a9 e9) (l_knowns.map knownR.strip) := by rw [pList_eq]; exact Reads.bind W_knowns Q_knowns
  have f_txs : rfact txR lim_tx w m_txs X_txs z a11 e11 z a10 e10 := f_txs; obtain ⟨l_txs, n_txs, le_txs, xq_txs, Q_txs, H_txs⟩ := rf_end hi_txs hst_txs f_txs; subst n_txs xq_txs; have R_txs := Rd.of_row o_txs; have S_txs : l_txs.length ≤ maxLen := Nat.le_trans (by omega : _ ≤ 1000) (by decide); have V2_txs : Reads (Rel z a9 e9) (pList 16 pTx) (Rel z a11 e11) (l_txs.map txR.strip) := by rw [pList_eq]; exact Reads.bind W_txs Q_txs
  exact ⟨⟨v_f, v_t, v_h, l_votes, A_votes, C_votes, l_motions, A_motions, C_motions, l_knowns, A_knowns, C_knowns, l_txs, A_txs, C_txs⟩, a11, e11, rfl, Reads.bind W_f (Reads.bind W_t (Reads.bind W_h (Reads.bind V2_votes (Reads.bind V2_motions (Reads.bind V2_knowns (Reads.bind V2_txs (Reads.ok _ _))))))), (by
    show messageM _ ≤ 600000; have s_votes := sumL_le (f := voteM) (c := 7) (l := l_votes) (fun x hx => Nat.le_refl _); have s_motions := sumL_le (f := motionM) (c := 117100) (l := l_motions) (fun x hx => (H_motions x hx).2); have s_knowns := sumL_le (f := knownM) (c := 117100) (l := l_knowns) (fun x hx => (H_knowns x hx).2); have s_txs := sumL_le (f := txM) (c := 7300) (l := l_txs) (fun x hx => (H_txs x hx).2); dsimp only [messageM]; omega), ⟨R_votes, R_motions, R_knowns, R_txs, ⟨S_votes, S_motions, S_knowns, S_txs⟩, (fun x hx => (H_votes x hx).1), (fun x hx => (H_motions x hx).1), (fun x hx => (H_knowns x hx).1), (fun x hx => (H_txs x hx).1)⟩⟩
 ·have hst_votes : k_votes < c_votes → ¬ e5 = 0 := fun h => absurd h hk
  obtain ⟨ys_votes, Y_votes⟩ := rc_end hi_votes hst_votes; have V_votes : Reads (Rel z a3 e3) (pList 512 pVote) (Rel z a5 e5) ys_votes := by rw [pList_eq]; exact Reads.bind W_votes Y_votes
  intro p_c_motions; refine ⟨fun _ _ => ⟨ok5, by decide⟩, fun c_motions z a6 e6 ⟨v1, a1', e1', ho, ok6, W_motions, lo_c_motions, hi_c_motions⟩ => ?_⟩; cases ho; refine ⟨⟨rfl, rc_init lo_c_motions ok6⟩, fun _ _ => rf_init, fun m_motions X_motions k_motions z a7 e7 v_f v_t v_h ⟨hc, hi_motions⟩ => ?_⟩; have hc : ([.i v_f, .i v_t, .i v_h] : List U) = _ := hc; cases hc; have hi_motions : rcore motionR m_motions k_motions z a7 e7 c_motions _ a6 e6 := hi_motions; obtain rfl : z = _ := rc_b hi_motions; have ok7 := rc_ok hi_motions; refine ⟨fun hk => ?_, fun hk => ?_⟩
  ·skip
   intro p_x; refine ⟨fun _ _ => rc_ok hi_motions, fun q0 q1 q2 q3 q4 q5 q6 q7 q8 q9 q10 q11 q12 q13 q14 q15 q16 q17 q18 q19 z ax ex ⟨yx, a1', e1', ho, okx, Wx⟩ => ?_⟩; have ho : ([U.i ex, .i ax, .s z] : List U) = _ := ho; cases ho; intro A0 C0; obtain ⟨r1, r2, r3⟩ := rc_room hi_motions hk (by omega) 160 (by decide); refine ⟨r1, r2, r3, ⟨rfl, rc_next hi_motions hk okx Wx⟩, fun w ⟨⟨_, f⟩, ⟨x, a2', e2', q, P, Lx, Hx⟩⟩ => ?_, by show (c_motions - (k_motions + 1)).toNat < (c_motions - k_motions).toNat; omega, trivial⟩; cases q; exact rf_next (R := motionR) f P Hx Lx
  have hst_motions : k_motions < c_motions → ¬ e7 = 0 := fun h => absurd h hk
  obtain ⟨ys_motions, Y_motions⟩ := rc_end hi_motions hst_motions; have V_motions : Reads (Rel z a5 e5) (pList 2 pMotion) (Rel z a7 e7) ys_motions := by rw [pList_eq]; exact Reads.bind W_motions Y_motions
  intro p_c_knowns; refine ⟨fun _ _ => ⟨ok7, by decide⟩, fun c_knowns z a8 e8 ⟨v1, a1', e1', ho, ok8, W_knowns, lo_c_knowns, hi_c_knowns⟩ => ?_⟩; cases ho; refine ⟨⟨rfl, rc_init lo_c_knowns ok8⟩, fun _ _ => rf_init, fun m_knowns X_knowns k_knowns z a9 e9 v_f v_t v_h ⟨hc, hi_knowns⟩ => ?_⟩; have hc : ([.i v_f, .i v_t, .i v_h] : List U) = _ := hc; cases hc; have hi_knowns : rcore knownR m_knowns k_knowns z a9 e9 c_knowns _ a8 e8 := hi_knowns; obtain rfl : z = _ := rc_b hi_knowns; have ok9 := rc_ok hi_knowns; refine ⟨fun hk => ?_, fun hk => ?_⟩
  ·skip
   intro p_x; refine ⟨fun _ _ => rc_ok hi_knowns, fun q0 q1 q2 q3 q4 q5 q6 q7 q8 q9 q10 q11 q12 q13 q14 q15 q16 q17 q18 q19 q20 q21 q22 z ax ex ⟨yx, a1', e1', ho, okx, Wx⟩ => ?_⟩; have ho : ([U.i ex, .i ax, .s z] : List U) = _ := ho; cases ho; intro A0 C0; obtain ⟨r1, r2, r3⟩ := rc_room hi_knowns hk (by omega) 184 (by decide); refine ⟨r1, r2, r3, ⟨rfl, rc_next hi_knowns hk okx Wx⟩, fun w ⟨⟨_, f⟩, ⟨x, a2', e2', q, P, Lx, Hx⟩⟩ => ?_, by show (c_knowns - (k_knowns + 1)).toNat < (c_knowns - k_knowns).toNat; omega, trivial⟩; cases q; exact rf_next (R := knownR) f P Hx Lx
  have hst_knowns : k_knowns < c_knowns → ¬ e9 = 0 := fun h => absurd h hk
  obtain ⟨ys_knowns, Y_knowns⟩ := rc_end hi_knowns hst_knowns; have V_knowns : Reads (Rel z a7 e7) (pList 2 pKnown) (Rel z a9 e9) ys_knowns := by rw [pList_eq]; exact Reads.bind W_knowns Y_knowns
  intro p_c_txs; refine ⟨fun _ _ => ⟨ok9, by decide⟩, fun c_txs z a10 e10 ⟨v1, a1', e1', ho, ok10, W_txs, lo_c_txs, hi_c_txs⟩ => ?_⟩; cases ho; refine ⟨⟨rfl, rc_init lo_c_txs ok10⟩, fun _ _ => rf_init, fun m_txs X_txs k_txs z a11 e11 v_f v_t v_h ⟨hc, hi_txs⟩ => ?_⟩; have hc : ([.i v_f, .i v_t, .i v_h] : List U) = _ := hc; cases hc; have hi_txs : rcore txR m_txs k_txs z a11 e11 c_txs _ a10 e10 := hi_txs; obtain rfl : z = _ := rc_b hi_txs; have ok11 := rc_ok hi_txs; refine ⟨fun hk => ?_, fun hk => ?_⟩
  ·skip
   intro p_x; refine ⟨fun _ _ => rc_ok hi_txs, fun q0 q1 q2 q3 q4 q5 q6 q7 q8 q9 q10 q11 q12 q13 q14 q15 q16 z ax ex ⟨yx, a1', e1', ho, okx, Wx⟩ => ?_⟩; have ho : ([U.i ex, .i ax, .s z] : List U) = _ := ho; cases ho; intro A0 C0; obtain ⟨r1, r2, r3⟩ := rc_room hi_txs hk (by omega) 144 (by decide); refine ⟨r1, r2, r3, ⟨rfl, rc_next hi_txs hk okx Wx⟩, fun w ⟨⟨_, f⟩, ⟨x, a2', e2', q, P, Lx, Hx⟩⟩ => ?_, by show (c_txs - (k_txs + 1)).toNat < (c_txs - k_txs).toNat; omega, trivial⟩; cases q; exact rf_next (R := txR) f P Hx Lx
  have hst_txs : k_txs < c_txs → ¬ e11 = 0 := fun h => absurd h hk
  obtain ⟨ys_txs, Y_txs⟩ := rc_end hi_txs hst_txs; have V_txs : Reads (Rel z a9 e9) (pList 16 pTx) (Rel z a11 e11) ys_txs := by rw [pList_eq]; exact Reads.bind W_txs Y_txs
  intro A_votes C_votes A_motions C_motions A_knowns C_knowns A_txs C_txs; refine ⟨⟨⟨v_f, v_t, v_h, ys_votes, none, 0, ys_motions, none, 0, ys_knowns, none, 0, ys_txs, none, 0⟩, a11, e11, rfl, ok11, Reads.bind W_f (Reads.bind W_t (Reads.bind W_h (Reads.bind V_votes (Reads.bind V_motions (Reads.bind V_knowns (Reads.bind V_txs (Reads.ok _ _)))))))⟩, fun w hw => ?_⟩; obtain ⟨⟨⟨⟨⟨⟨⟨⟨⟨⟨⟨⟨⟨⟨⟨_, _⟩, _⟩, _⟩, _⟩, f_votes⟩, _⟩, f_motions⟩, _⟩, f_knowns⟩, _⟩, f_txs⟩, o_votes⟩, o_motions⟩, o_knowns⟩, o_txs⟩ := hw; have f_votes : rfact voteR lim_vote w m_votes X_votes z a5 e5 z a4 e4 := f_votes; obtain ⟨l_votes, n_votes, le_votes, xq_votes, Q_votes, H_votes⟩ := rf_end hi_votes hst_votes f_votes; subst n_votes xq_votes; have R_votes := Rd.of_row o_votes; have S_votes : l_votes.length ≤ maxLen := Nat.le_trans (by omega : _ ≤ 1000) (by decide); have V2_votes : Reads (Rel z a3 e3) (pList 512 pVote) (Rel z a5 e5) (l_votes.map voteR.strip) := by rw [pList_eq]; exact Reads.bind W_votes Q_votes
  rw [show l_votes.map voteR.strip = l_votes from List.map_id' l_votes] at V2_votes; have f_motions : rfact motionR lim_motion w m_motions X_motions z a7 e7 z a6 e6 := f_motions; obtain ⟨l_motions, n_motions, le_motions, xq_motions, Q_motions, H_motions⟩ := rf_end hi_motions hst_motions f_motions; subst n_motions xq_motions; have R_motions := Rd.of_row o_motions; have S_motions : l_motions.length ≤ maxLen := Nat.le_trans (by omega : _ ≤ 1000) (by decide); have V2_motions : Reads (Rel z a5 e5) (pList 2 pMotion) (Rel z a7 e7) (l_motions.map motionR.strip) := by rw [pList_eq]; exact Reads.bind W_motions Q_motions
  have f_knowns : rfact knownR lim_known w m_knowns X_knowns z a9 e9 z a8 e8 := f_knowns; obtain ⟨l_knowns, n_knowns, le_knowns, xq_knowns, Q_knowns, H_knowns⟩ := rf_end hi_knowns hst_knowns f_knowns; subst n_knowns xq_knowns; have R_knowns := Rd.of_row o_knowns; have S_knowns : l_knowns.length ≤ maxLen := Nat.le_trans (by omega : _ ≤ 1000) (by decide); have V2_knowns : Reads (Rel z a7 e7) (pList 2 pKnown) (Rel z a9 e9) (l_knowns.map knownR.strip) := by rw [pList_eq]; exact Reads.bind W_knowns Q_knowns
  have f_txs : rfact txR lim_tx w m_txs X_txs z a11 e11 z a10 e10 := f_txs; obtain ⟨l_txs, n_txs, le_txs, xq_txs, Q_txs, H_txs⟩ := rf_end hi_txs hst_txs f_txs; subst n_txs xq_txs; have R_txs := Rd.of_row o_txs; have S_txs : l_txs.length ≤ maxLen := Nat.le_trans (by omega : _ ≤ 1000) (by decide); have V2_txs : Reads (Rel z a9 e9) (pList 16 pTx) (Rel z a11 e11) (l_txs.map txR.strip) := by rw [pList_eq]; exact Reads.bind W_txs Q_txs
  exact ⟨⟨v_f, v_t, v_h, l_votes, A_votes, C_votes, l_motions, A_motions, C_motions, l_knowns, A_knowns, C_knowns, l_txs, A_txs, C_txs⟩, a11, e11, rfl, Reads.bind W_f (Reads.bind W_t (Reads.bind W_h (Reads.bind V2_votes (Reads.bind V2_motions (Reads.bind V2_knowns (Reads.bind V2_txs (Reads.ok _ _))))))), (by
    show messageM _ ≤ 600000; have s_votes := sumL_le (f := voteM) (c := 7) (l := l_votes) (fun x hx => Nat.le_refl _); have s_motions := sumL_le (f := motionM) (c := 117100) (l := l_motions) (fun x hx => (H_motions x hx).2); have s_knowns := sumL_le (f := knownM) (c := 117100) (l := l_knowns) (fun x hx => (H_knowns x hx).2); have s_txs := sumL_le (f := txM) (c := 7300) (l := l_txs) (fun x hx => (H_txs x hx).2); dsimp only [messageM]; omega), ⟨R_votes, R_motions, R_knowns, R_txs, ⟨S_votes, S_motions, S_knowns, S_txs⟩, (fun x hx => (H_votes x hx).1), (fun x hx => (H_motions x hx).1), (fun x hx => (H_knowns x hx).1), (fun x hx => (H_txs x hx).1)⟩⟩
def lim_record : RecordD → Prop := fun x => recordM x ≤ 240000
theorem lim_motionZ : motionM motionZ ≤ 117100 := by decide
theorem lim_knownZ : knownM knownZ ≤ 117100 := by decide
def cfg_rrecord : Cfg := { con := [(67, 0), (74, 0), (231, 0), (232, 0)], lents := [(67, [(0, 122)]), (74, [(0, 122)]), (231, [(0, 122)]), (232, [(0, 122)])], mine := [(0, 122)] }
def vcd_rrecord : { v : VC // vcOf Tryz.prog cfg_rrecord 141 = v } := by refine ⟨?v, ?h⟩; rotate_left; conv => lhs; reduce
theorem vce_rrecord : vcOf Tryz.prog cfg_rrecord 141 = vcd_rrecord.1 := vcd_rrecord.2
set_option linter.unusedVariables false in
theorem rrecord_ok : KeepsL Tryz.prog 141 (refC recordR lim_record) cfg_rrecord.mine := by
 refine keepsL_v Tryz.func141 cfg_rrecord vce_rrecord [.p, .s, .i, .i] (refC recordR lim_record) [(67, RNumS), (74, (refC voteR lim_vote)), (231, (refC motionR lim_motion)), (232, (refC knownR lim_known))] ⟨rnum_ok, rvote_ok, rmotion_ok, rknown_ok, trivial⟩ (by kernel_rfl) (fun _ _ _ h => h) ?_; intro x0 z a0 e0 w hp; refine ⟨[], vc_use ?Q ?h ?g⟩
 case h => intro O C s I b; conv => lhs; reduce
 dsimp only [std]; simp only [ctrOf, invOf, List.lookup, Nat.reduceBEq, Option.getD_some, Int.reduceOfNat, Int.reduceNegSucc]; have ok0 : okR z a0 := hp; intro p_k; refine ⟨fun _ _ => ok0, fun k z a1 e1 ⟨v1, a1', e1', ho, ok1, W_k, L_k⟩ => ?_⟩; cases ho; refine ⟨fun h1 => ?_, fun h1 => ?_⟩
 ·skip
  intro p_vote; refine ⟨fun _ _ => ok1, fun l_0 l_1 l_2 l_3 l_4 l_5 z a2 e2 ⟨y, a1', e1', ho, ok2, W⟩ => ?_⟩; have ho : ([U.i e2, .i a2, .s z] : List U) = _ := ho; cases ho; refine ⟨fun h => absurd h (by omega), fun h2 => ⟨fun h => absurd h (by omega), fun h3 => ⟨fun h => absurd h (by omega), fun h4 => ?_⟩⟩⟩; refine ⟨⟨⟨k, y, motionZ, knownZ⟩, a2, e2, rfl, ok2, Reads.bind W_k (show Reads _ (if k = 1 then _ else _) _ _ from by rw [if_pos h1]; exact Reads.bind W (Reads.ok _ _))⟩, fun w hw => ?_⟩; obtain ⟨⟨_, _⟩, ⟨x, a2', e2', q, P, Lx, Hx⟩⟩ := hw; cases q; exact ⟨⟨k, x, motionZ, knownZ⟩, a2, e2, rfl, Reads.bind W_k (show Reads _ (if k = 1 then _ else _) _ _ from by rw [if_pos h1]; exact Reads.bind P (Reads.ok _ _)), (by
    have m1 := lim_motionZ; have m2 := lim_knownZ; show recordM _ ≤ 240000; dsimp only [recordM, voteM]; omega), ⟨Hx, motionZ_held _ _, knownZ_held _ _⟩⟩
 refine ⟨fun h2 => ?_, fun h2 => ?_⟩
 ·skip
  intro p_motion; refine ⟨fun _ _ => ok1, fun l_0 l_1 l_2 l_3 l_4 l_5 l_6 l_7 l_8 l_9 l_10 l_11 l_12 l_13 l_14 l_15 l_16 l_17 l_18 l_19 z a2 e2 ⟨y, a1', e1', ho, ok2, W⟩ => ?_⟩; have ho : ([U.i e2, .i a2, .s z] : List U) = _ := ho; cases ho; refine ⟨fun h => absurd h (by omega), fun h3 => ⟨fun h => absurd h (by omega), fun h4 => ?_⟩⟩; refine ⟨⟨⟨k, voteZ, y, knownZ⟩, a2, e2, rfl, ok2, Reads.bind W_k (show Reads _ (if k = 1 then _ else _) _ _ from by rw [if_neg h1, if_pos h2]; exact Reads.bind W (Reads.ok _ _))⟩, fun w hw => ?_⟩; obtain ⟨⟨_, _⟩, ⟨x, a2', e2', q, P, Lx, Hx⟩⟩ := hw; cases q; exact ⟨⟨k, voteZ, x, knownZ⟩, a2, e2, rfl, Reads.bind W_k (show Reads _ (if k = 1 then _ else _) _ _ from by rw [if_neg h1, if_pos h2]; exact Reads.bind P (Reads.ok _ _)), (by
    have m1 := lim_motionZ; have m2 := lim_knownZ; have m3 : motionM x ≤ 117100 := Lx; show recordM _ ≤ 240000; dsimp only [recordM, voteM]; omega), ⟨voteZ_ok, Hx, knownZ_held _ _⟩⟩
 refine ⟨fun h3 => ?_, fun h3 => ⟨fun h4 => ?_, fun h4 => ?_⟩⟩
 ·skip
  intro p_known; refine ⟨fun _ _ => ok1, fun l_0 l_1 l_2 l_3 l_4 l_5 l_6 l_7 l_8 l_9 l_10 l_11 l_12 l_13 l_14 l_15 l_16 l_17 l_18 l_19 l_20 l_21 l_22 z a2 e2 ⟨y, a1', e1', ho, ok2, W⟩ => ?_⟩; have ho : ([U.i e2, .i a2, .s z] : List U) = _ := ho; cases ho
  skip
  refine ⟨⟨⟨k, voteZ, motionZ, y⟩, a2, e2, rfl, ok2, Reads.bind W_k (show Reads _ (if k = 1 then _ else _) _ _ from by rw [if_neg h1, if_neg h2, if_pos (Or.inl h3 : k = 3 ∨ k = 4)]; exact Reads.bind W (Reads.ok _ _))⟩, fun w hw => ?_⟩; obtain ⟨⟨_, _⟩, ⟨x, a2', e2', q, P, Lx, Hx⟩⟩ := hw; cases q; exact ⟨⟨k, voteZ, motionZ, x⟩, a2, e2, rfl, Reads.bind W_k (show Reads _ (if k = 1 then _ else _) _ _ from by rw [if_neg h1, if_neg h2, if_pos (Or.inl h3 : k = 3 ∨ k = 4)]; exact Reads.bind P (Reads.ok _ _)), (by
    have m1 := lim_motionZ; have m2 := lim_knownZ; have m3 : knownM x ≤ 117100 := Lx; show recordM _ ≤ 240000; dsimp only [recordM, voteM]; omega), ⟨voteZ_ok, motionZ_held _ _, Hx⟩⟩
 ·skip
  intro p_known; refine ⟨fun _ _ => ok1, fun l_0 l_1 l_2 l_3 l_4 l_5 l_6 l_7 l_8 l_9 l_10 l_11 l_12 l_13 l_14 l_15 l_16 l_17 l_18 l_19 l_20 l_21 l_22 z a2 e2 ⟨y, a1', e1', ho, ok2, W⟩ => ?_⟩; have ho : ([U.i e2, .i a2, .s z] : List U) = _ := ho; cases ho
  skip
  refine ⟨⟨⟨k, voteZ, motionZ, y⟩, a2, e2, rfl, ok2, Reads.bind W_k (show Reads _ (if k = 1 then _ else _) _ _ from by rw [if_neg h1, if_neg h2, if_pos (Or.inr h4 : k = 3 ∨ k = 4)]; exact Reads.bind W (Reads.ok _ _))⟩, fun w hw => ?_⟩; obtain ⟨⟨_, _⟩, ⟨x, a2', e2', q, P, Lx, Hx⟩⟩ := hw; cases q; exact ⟨⟨k, voteZ, motionZ, x⟩, a2, e2, rfl, Reads.bind W_k (show Reads _ (if k = 1 then _ else _) _ _ from by rw [if_neg h1, if_neg h2, if_pos (Or.inr h4 : k = 3 ∨ k = 4)]; exact Reads.bind P (Reads.ok _ _)), (by
    have m1 := lim_motionZ; have m2 := lim_knownZ; have m3 : knownM x ≤ 117100 := Lx; show recordM _ ≤ 240000; dsimp only [recordM, voteM]; omega), ⟨voteZ_ok, motionZ_held _ _, Hx⟩⟩
 ·have h34 : ¬ (k = 3 ∨ k = 4) := fun h => h.elim h3 h4
  have V : Reads (Rel z a0 e0) pRecord (Rel z a1 e1) ⟨k, voteZ, motionZ, knownZ⟩ := Reads.bind W_k (show Reads _ (if k = 1 then _ else _) _ _ from by rw [if_neg h1, if_neg h2, if_neg h34]; exact Reads.ok _ _); exact ⟨⟨⟨k, voteZ, motionZ, knownZ⟩, a1, e1, rfl, ok1, V⟩, fun w hw => ⟨⟨k, voteZ, motionZ, knownZ⟩, a1, e1, rfl, V, (by
   have m1 := lim_motionZ; have m2 := lim_knownZ; show recordM _ ≤ 240000; dsimp only [recordM, voteM]; omega), ⟨voteZ_ok, motionZ_held _ _, knownZ_held _ _⟩⟩⟩
theorem list_map_out {α β : Type} (S : Out) (l : List α) (g : α → β) (n : Int) (f : Out → β → Out) : S.list (l.map g) n f = S.list l n fun S x => f S (g x) := by unfold Out.list; rw [List.foldl_map, List.length_map]
theorem sumL_map {α β : Type} (l : List α) (g : α → β) (f : β → Nat) : sumL f (l.map g) = sumL (fun x => f (g x)) l := by unfold sumL; rw [List.foldl_map]
theorem cert_strip (S : Out) (x : CertD) : S.cert (certR.strip x) = S.cert x := rfl
theorem proof_strip (S : Out) (x : ProofD) : S.proof (proofR.strip x) = S.proof x := rfl
theorem sight_strip (S : Out) (x : SightD) : S.sight (sightR.strip x) = S.sight x := rfl
theorem tx_strip (S : Out) (x : TxD) : S.tx (txR.strip x) = S.tx x := by
 unfold Out.tx; simp only [txR, list_map_out, txOk1, txOk2, txOk3, List.length_map, sight_strip, proof_strip]; rfl
theorem block_strip (S : Out) (x : BlockD) : S.block (blockR.strip x) = S.block x := by
 unfold Out.block; simp only [blockR, list_map_out, tx_strip]
theorem motion_strip (S : Out) (x : MotionD) : S.motion (motionR.strip x) = S.motion x := by
 unfold Out.motion; simp only [motionR, list_map_out, block_strip, cert_strip]; rfl
theorem known_strip (S : Out) (x : KnownD) : S.known (knownR.strip x) = S.known x := by
 unfold Out.known; simp only [knownR, block_strip, cert_strip]
theorem message_strip (S : Out) (x : MessageD) : S.message (messageR.strip x) = S.message x := by
 unfold Out.message; simp only [messageR, list_map_out, motion_strip, known_strip, tx_strip]; rfl
theorem noMotion_strip (x : MotionD) : noMotion (motionR.strip x) = noMotion x := by
 simp only [noMotion, motionR, blockR, noBlock, List.length_map, List.isEmpty_map]; rfl
theorem noKnown_strip (x : KnownD) : noKnown (knownR.strip x) = noKnown x := by
 simp only [noKnown, knownR, blockR, certR, noBlock, noCert, List.length_map, List.isEmpty_map]; rfl
theorem record_strip (S : Out) (x : RecordD) : S.record (recordR.strip x) = S.record x := by
 unfold Out.record Out.what; simp only [recordR, noMotion_strip, noKnown_strip, motion_strip, known_strip]; rfl
theorem certM_strip (x : CertD) : certM (certR.strip x) = certM x := rfl
theorem proofM_strip (x : ProofD) : proofM (proofR.strip x) = proofM x := rfl
theorem sightM_strip (x : SightD) : sightM (sightR.strip x) = sightM x := rfl
theorem txM_strip (x : TxD) : txM (txR.strip x) = txM x := by
 simp only [txM, txR, sumL_map, sightM_strip, proofM_strip]
theorem blockM_strip (x : BlockD) : blockM (blockR.strip x) = blockM x := by
 simp only [blockM, blockR, sumL_map, txM_strip]
theorem motionM_strip (x : MotionD) : motionM (motionR.strip x) = motionM x := by
 simp only [motionM, motionR, sumL_map, blockM_strip, certM_strip]
theorem knownM_strip (x : KnownD) : knownM (knownR.strip x) = knownM x := by
 simp only [knownM, knownR, blockM_strip, certM_strip]
theorem messageM_strip (x : MessageD) : messageM (messageR.strip x) = messageM x := by
 simp only [messageM, messageR, sumL_map, motionM_strip, knownM_strip, txM_strip]
theorem recordM_strip (x : RecordD) : recordM (recordR.strip x) = recordM x := by
 simp only [recordM, recordR, motionM_strip, knownM_strip]
def Lim {α : Type} (p : ByteArray → Got α) (P : α → Prop) : Prop := ∀ s x r, p s = .ok (x, r) → P x
theorem Lim.bind {α β : Type} {p : ByteArray → Got α} {f : α → ByteArray → Got β} {P : α → Prop} {Q : β → Prop} (h : Lim p P) (g : ∀ x, P x → Lim (f x) Q) : Lim (pBind p f) Q := by
 intro s y r hs; unfold pBind at hs; split at hs
 ·cases hs
 ·next x t hx => exact g x (h s x t hx) t y r hs
theorem Lim.ok {α : Type} {Q : α → Prop} {v : α} (h : Q v) : Lim (fun z => .ok (v, z)) Q := by
 intro s y r hs; simp only [Except.ok.injEq, Prod.mk.injEq] at hs; rw [← hs.1]; exact h
theorem Lim.any {α : Type} (p : ByteArray → Got α) : Lim p fun _ => True := fun _ _ _ _ => trivial
theorem Lim.upto (n : Int) : Lim (pUpTo n) fun x => x ≤ n := by
 intro s x r h; unfold pUpTo at h; split at h
 ·cases h
 ·split at h
  ·cases h
  ·split at h
   ·cases h
   ·split at h
    ·cases h
    ·split at h
     ·cases h
     ·simp only [Except.ok.injEq, Prod.mk.injEq] at h; omega
theorem Lim.rep {α : Type} {p : ByteArray → Got α} {P : α → Prop} (h : Lim p P) : ∀ k, Lim (pRep p k) fun l => l.length = k ∧ ∀ x ∈ l, P x
 | 0 => by
  intro s l r hs; simp only [pRep, Except.ok.injEq, Prod.mk.injEq] at hs; rw [← hs.1]; exact ⟨rfl, fun _ h => absurd h (by simp)⟩
 | k + 1 => by
  intro s l r hs; unfold pRep at hs; split at hs
  ·cases hs
  ·next x s1 hx =>
   split at hs
   ·cases hs
   ·next l' s2 hl =>
    simp only [Except.ok.injEq, Prod.mk.injEq] at hs; obtain ⟨h1, h2⟩ := Lim.rep h k s1 l' s2 hl; rw [← hs.1]; refine ⟨by rw [List.length_cons, h1], fun y hy => ?_⟩
    rcases List.mem_cons.1 hy with rfl | hy
    ·exact h _ _ _ hx
    ·exact h2 y hy
theorem Lim.list {α : Type} {p : ByteArray → Got α} {P : α → Prop} (n : Int) (hn : 0 ≤ n) (h : Lim p P) : Lim (pList n p) fun l => (l.length : Int) ≤ n ∧ ∀ x ∈ l, P x := by
 rw [pList_eq]; refine (Lim.upto n).bind fun k hk => fun s l r hs => ?_
 obtain ⟨h1, h2⟩ := h.rep k.toNat s l r hs; exact ⟨by omega, h2⟩
theorem Lim.text (n : Int) (hn : 0 ≤ n) : Lim (pText n) fun t => (t.size : Int) ≤ n := by
 refine (Lim.upto n).bind fun k hk => fun s l r hs => ?_
 have := pTake_len hs; omega
theorem pcert_lim : Lim pCert lim_cert := by
 unfold pCert; exact (Lim.any _).bind fun _ _ => (Lim.any _).bind fun _ _ => (Lim.any _).bind fun _ _ => (Lim.any _).bind fun _ _ => (Lim.any _).bind fun _ _ => (Lim.list 7 (by decide) (Lim.any _)).bind fun l h => Lim.ok (by
  show certM _ ≤ 14; dsimp only [certM]; omega)
theorem pbench_lim : Lim pBench lim_bench := by
 unfold pBench; exact (Lim.list 7 (by decide) (Lim.any _)).bind fun l h => Lim.ok (by show l.length ≤ 7; omega)
theorem pproof_lim : Lim pProof lim_proof := by
 unfold pProof; exact (Lim.list 288 (by decide) (Lim.any _)).bind fun l h => (Lim.any _).bind fun _ _ => (Lim.text 32 (by decide)).bind fun k hk => (Lim.text 4096 (by decide)).bind fun v hv => Lim.ok (by
  show proofM _ ≤ 5000; have s1 := sumL_le (f := turnM) (c := 3) (l := l) fun x hx => Nat.le_refl _
  have s2 := size_list k; have s3 := size_list v; dsimp only [proofM]; omega)
theorem psight_lim : Lim pSight lim_sight := by
 unfold pSight; exact (Lim.any _).bind fun _ _ => pcert_lim.bind fun c hc => pbench_lim.bind fun b hb => Lim.ok (by
  show sightM _ ≤ 60; have s1 : certM c ≤ 14 := hc; have s2 : b.l.length ≤ 7 := hb; dsimp only [sightM, headerM]; omega)
theorem ptx_lim : Lim pTx lim_tx := by
 unfold pTx; exact (Lim.any _).bind fun _ _ => (Lim.any _).bind fun _ _ => (Lim.any _).bind fun _ _ => (Lim.any _).bind fun _ _ => (Lim.any _).bind fun _ _ => (Lim.any _).bind fun _ _ => (Lim.any _).bind fun _ _ => (Lim.text 2048 (by decide)).bind fun t ht => (Lim.list 8 (by decide) (Lim.any _)).bind fun l hl => (Lim.list 1 (by decide) psight_lim).bind fun m hm => (Lim.list 1 (by decide) pproof_lim).bind fun q hq => Lim.ok (by
  show txM _ ≤ 7300; have s1 := sumL_le (f := sightM) (c := 60) (l := m) hm.2; have s2 := sumL_le (f := proofM) (c := 5000) (l := q) hq.2; have s3 := size_list t; dsimp only [txM]; omega)
theorem pblock_lim : Lim pBlock lim_block := by
 unfold pBlock; exact (Lim.any _).bind fun _ _ => (Lim.list 16 (by decide) ptx_lim).bind fun l hl => (Lim.list 4 (by decide) (Lim.any _)).bind fun g hg => Lim.ok (by
  show blockM _ ≤ 117000; have s1 := sumL_le (f := txM) (c := 7300) (l := l) hl.2; have s2 := sumL_le (f := guiltM) (c := 15) (l := g) fun x hx => Nat.le_refl _
  dsimp only [blockM, headerM]; omega)
theorem pmotion_lim : Lim pMotion lim_motion := by
 unfold pMotion; exact (Lim.any _).bind fun _ _ => (Lim.any _).bind fun _ _ => pblock_lim.bind fun b hb => (Lim.list 1 (by decide) pcert_lim).bind fun l hl => Lim.ok (by
  show motionM _ ≤ 117100; have s1 : blockM b ≤ 117000 := hb; have s2 := sumL_le (f := certM) (c := 14) (l := l) hl.2; dsimp only [motionM]; omega)
theorem pknown_lim : Lim pKnown lim_known := by
 unfold pKnown; exact pcert_lim.bind fun c hc => pblock_lim.bind fun b hb => Lim.ok (by
  show knownM _ ≤ 117100; have s1 : certM c ≤ 14 := hc; have s2 : blockM b ≤ 117000 := hb; dsimp only [knownM]; omega)
theorem pmessage_lim : Lim pMessage lim_message := by
 unfold pMessage; exact (Lim.any _).bind fun _ _ => (Lim.any _).bind fun _ _ => (Lim.any _).bind fun _ _ => (Lim.list 512 (by decide) (Lim.any _)).bind fun v hv => (Lim.list 2 (by decide) pmotion_lim).bind fun m hm => (Lim.list 2 (by decide) pknown_lim).bind fun k hk => (Lim.list 16 (by decide) ptx_lim).bind fun l hl => Lim.ok (by
  show messageM _ ≤ 600000; have s1 := sumL_le (f := voteM) (c := 7) (l := v) fun x hx => Nat.le_refl _
  have s2 := sumL_le (f := motionM) (c := 117100) (l := m) hm.2; have s3 := sumL_le (f := knownM) (c := 117100) (l := k) hk.2; have s4 := sumL_le (f := txM) (c := 7300) (l := l) hl.2; dsimp only [messageM]; omega)
theorem pview_lim : Lim pView lim_view := by
 unfold pView; exact (Lim.any _).bind fun _ _ => (Lim.any _).bind fun _ _ => (Lim.any _).bind fun _ _ => (Lim.any _).bind fun _ _ => (Lim.any _).bind fun _ _ => pbench_lim.bind fun b hb => Lim.ok (by
  show viewM _ ≤ 40; have s2 : b.l.length ≤ 7 := hb; have s1 := sumL_le (f := seatM) (c := 3) (l := b.l) fun x hx => Nat.le_refl _
  dsimp only [viewM]; omega)
theorem presult_lim : Lim pResult lim_result := by
 unfold pResult; exact (Lim.any _).bind fun _ _ => (Lim.any _).bind fun _ _ => (Lim.any _).bind fun _ _ => (Lim.list 64 (by decide) (Lim.any _)).bind fun l h => Lim.ok (by
  show resultM _ ≤ 300; have s1 := sumL_le (f := noteM) (c := 3) (l := l) fun x hx => Nat.le_refl _
  dsimp only [resultM]; omega)
theorem precord_lim : Lim pRecord lim_record := by
 unfold pRecord; have m1 := lim_motionZ; have m2 := lim_knownZ; refine (Lim.any _).bind fun k _ => ?_
 split
 ·exact (Lim.any _).bind fun _ _ => Lim.ok (by show recordM _ ≤ 240000; dsimp only [recordM, voteM]; omega)
 ·split
  ·exact pmotion_lim.bind fun m hm => Lim.ok (by have s1 : motionM m ≤ 117100 := hm; show recordM _ ≤ 240000; dsimp only [recordM, voteM]; omega)
  ·split
   ·exact pknown_lim.bind fun m hm => Lim.ok (by have s1 : knownM m ≤ 117100 := hm; show recordM _ ≤ 240000; dsimp only [recordM, voteM]; omega)
   ·exact Lim.ok (by show recordM _ ≤ 240000; dsimp only [recordM, voteM]; omega)
end Go.Proofs.YtjhaafbbdgjagaaGreat
