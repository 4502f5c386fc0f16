/- Of the texts Gp3, Gr0. -/
import Derived.Test.YtjhaafbbdgjagaaGreatProg
import Derived.Test.YtjhaafbbdgjagaaGreatG37
set_option linter.unusedSimpArgs false
set_option linter.unusedVariables false
namespace Go.Proofs.YtjhaafbbdgjagaaGreat
open Go.RowKit Vc
set_option maxRecDepth 100000
def pText (most : Int) : ByteArray → Got ByteArray := pBind (pUpTo most) fun n => pTake n
theorem good_text (n : Int) : Good (pText n) := by
 intro s x r h hs; unfold pText pBind at h; split at h
 ·cases h
 ·next m t ht =>
  have := pUpTo_spec ht hs; exact (pTake_small h this.2.2 this.1).2.1
def rtextP : List U → Prop
 | [.p _, .i n, .s s] => Small s ∧ n ≤ 1000000
 | _ => False
def rtextF : List U → Except Int (List U)
 | [.p _, .i n, .s s] => gS (pText n s)
 | _ => .error 0
def PTextS : Ctr := rdC rtextP rtextF
def cfg_ptext : Cfg := { con := [(138, 0), (228, 0)], lents := [(138, [(0, 208)]), (228, [(0, 208)])], mine := [(0, 208)], pans := [138, 228] }
def vcd_ptext : { v : VC // vcOf Tryz.prog cfg_ptext 173 = v } := by refine ⟨?v, ?h⟩; rotate_left; conv => lhs; reduce
theorem vce_ptext : vcOf Tryz.prog cfg_ptext 173 = vcd_ptext.1 := vcd_ptext.2
theorem ptext_ok : KeepsL Tryz.prog 173 PTextS cfg_ptext.mine := by
 refine keepsL_v Tryz.func173 cfg_ptext vce_ptext [.p, .i, .s] PTextS [(138, PUpToS), (228, PTakeS)] ⟨pupto_ok, ptake_ok, trivial⟩ (by kernel_rfl) (fun _ _ _ h => h) ?_; intro x0 x1 s0 w hp; refine ⟨[], vc_use ?Q ?h ?g⟩
 case h => intro O C s I b; conv => lhs; reduce
 dsimp only [std]; simp only [ctrOf, invOf, List.lookup, Nat.reduceBEq, Option.getD_some, Int.reduceOfNat, Int.reduceNegSucc]; obtain ⟨hs0, hm⟩ : Small s0 ∧ x1 ≤ 1000000 := hp; have bad : ∀ e, pText x1 s0 = .error e → PTextS.pan [.p x0, .i x1, .s s0] (stopCh e) := fun e h => ⟨e, by show gS _ = _; rw [h]; rfl, rfl⟩
 simp only [rdC, PUpToS, upToF, PTakeS, takeF]; intro a1; refine ⟨fun ch ⟨e, g, hc⟩ => hc ▸ bad e (by simp only [pText, pBind, gI_err g]), fun _ _ => hs0, fun n s1 g1 => ?_⟩; replace g1 := gI_ok g1; obtain ⟨h0, h1, hs1⟩ := pUpTo_spec g1 hs0; intro a2; refine ⟨fun ch ⟨e, g, hc⟩ => hc ▸ bad e (by simp only [pText, pBind, g1, gS_err g]), fun _ _ => ⟨h0, hs1⟩, fun t s2 g2 => ?_⟩; replace g2 := gS_ok g2; refine ⟨?_, fun _ _ => trivial⟩; show gS _ = _; simp only [pText, pBind, g1, g2]; rfl
def pCert : ByteArray → Got CertD := pBind pNum fun h => pBind pNum fun r => pBind pNum fun s => pBind pFlag fun has => pBind pDig fun b => pBind (pList 7 pNum) fun froms => fun z => .ok (⟨h, r, s, has, b, froms, none, 0⟩, z)
theorem good_cert : Good pCert := by unfold pCert; exact good_bind good_num fun _ => good_bind good_num fun _ => good_bind good_num fun _ => good_bind good_flag fun _ => good_bind good_dig fun _ => good_bind (good_list _ good_num) fun _ => good_ok _
def certR : Rdr CertD := { us := fun x => [.i x.h, .i x.r, .i x.s, .b x.has, .i x.b, .p x.fa, .n x.froms.length, .n x.fc], cells := fun x => x.cells, strip := fun x => { x with fa := none, fc := 0 }, held := fun w x => x.held w w.heap.size, p := pCert }
def cfg_pcert : Cfg := { con := [(58, 0), (149, 0), (150, 0), (161, 0)], lents := [(58, [(0, 208)]), (149, [(0, 208)]), (150, [(0, 208)]), (161, [(0, 208)])], mine := [(0, 208)], pans := [58, 149, 150, 161] }
def vcd_pcert : { v : VC // vcOf Tryz.prog cfg_pcert 78 = v } := by refine ⟨?v, ?h⟩; rotate_left; conv => lhs; reduce
theorem vce_pcert : vcOf Tryz.prog cfg_pcert 78 = vcd_pcert.1 := vcd_pcert.2
set_option linter.unusedVariables false in
theorem pcert_ok : KeepsL Tryz.prog 78 (elemC certR) cfg_pcert.mine := by
 refine keepsL_v Tryz.func78 cfg_pcert vce_pcert [.p, .s] (elemC certR) [(58, PNumS), (149, PFlagS), (150, PDigS), (161, (listC numR 58 1))] ⟨pnum_ok, pflag_ok, pdig_ok, getsnum_ok, trivial⟩ (by kernel_rfl) (fun _ _ _ h => h) ?_; intro x0 s0 w hp; refine ⟨[], vc_use ?Q ?h ?g⟩
 case h => intro O C s I b; conv => lhs; reduce
 dsimp only [std]; simp only [ctrOf, invOf, List.lookup, Nat.reduceBEq, Option.getD_some, Int.reduceOfNat, Int.reduceNegSucc]; have hs0 : Small s0 := hp; have bad : ∀ e, pCert s0 = .error e → (elemC certR).pan [.p x0, .s s0] (stopCh e) := fun e h => ⟨e, h, rfl⟩
 simp only [rdC, PNumS, numF, PFlagS, flagF, PDigS, digF]; intro a_h; refine ⟨fun ch ⟨e, g, hc⟩ => hc ▸ bad e (by simp only [pCert, pBind, gI_err g]), fun _ _ => hs0, fun h s1 g_h => ?_⟩; replace g_h := gI_ok g_h; have hs1 : Small s1 := good_num _ _ _ g_h hs0; intro a_r; refine ⟨fun ch ⟨e, g, hc⟩ => hc ▸ bad e (by simp only [pCert, pBind, g_h, gI_err g]), fun _ _ => hs1, fun r s2 g_r => ?_⟩; replace g_r := gI_ok g_r; have hs2 : Small s2 := good_num _ _ _ g_r hs1; intro a_s; refine ⟨fun ch ⟨e, g, hc⟩ => hc ▸ bad e (by simp only [pCert, pBind, g_h, g_r, gI_err g]), fun _ _ => hs2, fun s s3 g_s => ?_⟩; replace g_s := gI_ok g_s; have hs3 : Small s3 := good_num _ _ _ g_s hs2; intro a_has; refine ⟨fun ch ⟨e, g, hc⟩ => hc ▸ bad e (by simp only [pCert, pBind, g_h, g_r, g_s, gB_err g]), fun _ _ => hs3, fun has s4 g_has => ?_⟩; replace g_has := gB_ok g_has; have hs4 : Small s4 := good_flag _ _ _ g_has hs3; intro a_b; refine ⟨fun ch ⟨e, g, hc⟩ => hc ▸ bad e (by simp only [pCert, pBind, g_h, g_r, g_s, g_has, gI_err g]), fun _ _ => hs4, fun b s5 g_b => ?_⟩; replace g_b := gI_ok g_b; have hs5 : Small s5 := good_dig _ _ _ g_b hs4; intro a_froms; refine ⟨fun ch ⟨e, g, hc⟩ => hc ▸ bad e (by simp only [pCert, pBind, g_h, g_r, g_s, g_has, g_b, show pList 7 pNum s5 = _ from g]), fun _ _ => ⟨hs5, rfl, by decide⟩, fun a1_froms n_froms c1_froms s6 ⟨y_froms, g_froms, _⟩ => ?_⟩; replace g_froms : pList 7 pNum s5 = .ok (y_froms, s6) := g_froms; have hs6 : Small s6 := good_list _ good_num _ _ _ g_froms hs5; refine ⟨⟨⟨h, r, s, has, b, y_froms, none, 0⟩, s6, by simp only [certR, pCert, pBind, g_h, g_r, g_s, g_has, g_b, g_froms], rfl⟩, fun w hw => ?_⟩; obtain ⟨⟨⟨⟨⟨⟨_, _⟩, _⟩, _⟩, _⟩, _⟩, ⟨l_froms, q_froms, m_froms, r_froms, h_froms⟩⟩ := hw; subst m_froms; replace q_froms : pList 7 pNum _ = .ok (_, _) := q_froms
 exact ⟨⟨h, r, s, has, b, l_froms, a1_froms, c1_froms⟩, s6, rfl, by simp only [certR, pCert, pBind, g_h, g_r, g_s, g_has, g_b, q_froms]; first | done | rfl | simp [numR], ⟨pDig_spec g_b, ints_of r_froms, short_of q_froms⟩⟩
structure BenD where
 l : List Seat
 a : Option Addr
 c : Nat
def pBench : ByteArray → Got BenD := pBind (pList 7 pSeat) fun l => fun z => .ok (⟨l, none, 0⟩, z)
theorem good_bench : Good pBench := by unfold pBench; exact good_bind (good_list _ good_seat) fun _ => good_ok _
def benchR : Rdr BenD := { us := fun x => [.p x.a, .n x.l.length, .n x.c], cells := fun x => [.slice x.a x.l.length x.c], strip := fun x => { x with a := none, c := 0 }, held := fun w x => SeatsL w w.heap.size x.a x.l ∧ x.l.length ≤ maxLen, p := pBench }
def cfg_pbench : Cfg := { con := [(165, 0)], lents := [(165, [(0, 208)])], mine := [(0, 208)], pans := [165] }
def vcd_pbench : { v : VC // vcOf Tryz.prog cfg_pbench 84 = v } := by refine ⟨?v, ?h⟩; rotate_left; conv => lhs; reduce
theorem vce_pbench : vcOf Tryz.prog cfg_pbench 84 = vcd_pbench.1 := vcd_pbench.2
set_option linter.unusedVariables false in
theorem pbench_ok : KeepsL Tryz.prog 84 (elemC benchR) cfg_pbench.mine := by
 refine keepsL_v Tryz.func84 cfg_pbench vce_pbench [.p, .s] (elemC benchR) [(165, (listC seatR 166 2))] ⟨getsseat_ok, trivial⟩ (by kernel_rfl) (fun _ _ _ h => h) ?_; intro x0 s0 w hp; refine ⟨[], vc_use ?Q ?h ?g⟩
 case h => intro O C s I b; conv => lhs; reduce
 dsimp only [std]; simp only [ctrOf, invOf, List.lookup, Nat.reduceBEq, Option.getD_some, Int.reduceOfNat, Int.reduceNegSucc]; have hs0 : Small s0 := hp; have bad : ∀ e, pBench s0 = .error e → (elemC benchR).pan [.p x0, .s s0] (stopCh e) := fun e h => ⟨e, h, rfl⟩
 intro a_l; refine ⟨fun ch ⟨e, g, hc⟩ => hc ▸ bad e (by simp only [pBench, pBind, show pList 7 pSeat s0 = _ from g]), fun _ _ => ⟨hs0, rfl, by decide⟩, fun a1_l n_l c1_l s1 ⟨y_l, g_l, _⟩ => ?_⟩; replace g_l : pList 7 pSeat s0 = .ok (y_l, s1) := g_l; have hs1 : Small s1 := good_list _ good_seat _ _ _ g_l hs0; refine ⟨⟨⟨y_l, none, 0⟩, s1, by simp only [benchR, pBench, pBind, g_l], rfl⟩, fun w hw => ?_⟩; obtain ⟨_, ⟨l_l, q_l, m_l, r_l, h_l⟩⟩ := hw; subst m_l; replace q_l : pList 7 pSeat _ = .ok (_, _) := q_l; exact ⟨⟨l_l, a1_l, c1_l⟩, s1, rfl, by simp only [benchR, pBench, pBind, q_l]; first | done | rfl | simp [seatR], ⟨r_l, short_of q_l⟩⟩
def pProof : ByteArray → Got ProofD := pBind (pList 288 pTurn) fun turns => pBind pFlag fun leaf => pBind (pText 32) fun key => pBind (pText 4096) fun value => fun z => .ok (⟨turns, none, 0, leaf, key.data.toList, value.data.toList⟩, z)
theorem good_proof : Good pProof := by unfold pProof; exact good_bind (good_list _ good_turn) fun _ => good_bind good_flag fun _ => good_bind (good_text _) fun _ => good_bind (good_text _) fun _ => good_ok _
def proofR : Rdr ProofD := { us := fun x => [.p x.ta, .n x.turns.length, .n x.tc, .b x.leaf, .s (bs x.key), .s (bs x.value)], cells := fun x => x.cells, strip := fun x => { x with ta := none, tc := 0 }, held := fun w x => x.held w w.heap.size, p := pProof }
def cfg_pproof : Cfg := { con := [(171, 0), (149, 0), (173, 0)], lents := [(171, [(0, 208)]), (149, [(0, 208)]), (173, [(0, 208)])], mine := [(0, 208)], pans := [171, 149, 173] }
def vcd_pproof : { v : VC // vcOf Tryz.prog cfg_pproof 96 = v } := by refine ⟨?v, ?h⟩; rotate_left; conv => lhs; reduce
theorem vce_pproof : vcOf Tryz.prog cfg_pproof 96 = vcd_pproof.1 := vcd_pproof.2
set_option linter.unusedVariables false in
theorem pproof_ok : KeepsL Tryz.prog 96 (elemC proofR) cfg_pproof.mine := by
 refine keepsL_v Tryz.func96 cfg_pproof vce_pproof [.p, .s] (elemC proofR) [(171, (listC turnR 172 2)), (149, PFlagS), (173, PTextS)] ⟨getsturn_ok, pflag_ok, ptext_ok, trivial⟩ (by kernel_rfl) (fun _ _ _ h => h) ?_; intro x0 s0 w hp; refine ⟨[], vc_use ?Q ?h ?g⟩
 case h => intro O C s I b; conv => lhs; reduce
 dsimp only [std]; simp only [ctrOf, invOf, List.lookup, Nat.reduceBEq, Option.getD_some, Int.reduceOfNat, Int.reduceNegSucc]; have hs0 : Small s0 := hp; have bad : ∀ e, pProof s0 = .error e → (elemC proofR).pan [.p x0, .s s0] (stopCh e) := fun e h => ⟨e, h, rfl⟩
 simp only [rdC, PFlagS, flagF, PTextS, rtextF]; intro a_turns; refine ⟨fun ch ⟨e, g, hc⟩ => hc ▸ bad e (by simp only [pProof, pBind, show pList 288 pTurn s0 = _ from g]), fun _ _ => ⟨hs0, rfl, by decide⟩, fun a1_turns n_turns c1_turns s1 ⟨y_turns, g_turns, _⟩ => ?_⟩; replace g_turns : pList 288 pTurn s0 = .ok (y_turns, s1) := g_turns; have hs1 : Small s1 := good_list _ good_turn _ _ _ g_turns hs0; intro a_leaf; refine ⟨fun ch ⟨e, g, hc⟩ => hc ▸ bad e (by simp only [pProof, pBind, g_turns, gB_err g]), fun _ _ => hs1, fun leaf s2 g_leaf => ?_⟩; replace g_leaf := gB_ok g_leaf; have hs2 : Small s2 := good_flag _ _ _ g_leaf hs1; intro a_key; refine ⟨fun ch ⟨e, g, hc⟩ => hc ▸ bad e (by simp only [pProof, pBind, g_turns, g_leaf, gS_err g]), fun _ _ => ⟨hs2, by decide⟩, fun t_key s3 g_key => ?_⟩; replace g_key := gS_ok g_key; have hs3 : Small s3 := good_text _ _ _ _ g_key hs2; intro a_value; refine ⟨fun ch ⟨e, g, hc⟩ => hc ▸ bad e (by simp only [pProof, pBind, g_turns, g_leaf, g_key, gS_err g]), fun _ _ => ⟨hs3, by decide⟩, fun t_value s4 g_value => ?_⟩; replace g_value := gS_ok g_value; have hs4 : Small s4 := good_text _ _ _ _ g_value hs3; refine ⟨⟨⟨y_turns, none, 0, leaf, t_key.data.toList, t_value.data.toList⟩, s4, by simp only [proofR, pProof, pBind, g_turns, g_leaf, g_key, g_value], rfl⟩, fun w hw => ?_⟩; obtain ⟨⟨⟨⟨_, ⟨l_turns, q_turns, m_turns, r_turns, h_turns⟩⟩, _⟩, _⟩, _⟩ := hw; subst m_turns; replace q_turns : pList 288 pTurn _ = .ok (_, _) := q_turns; have b_key := bs_back t_key; have b_value := bs_back t_value; exact ⟨⟨l_turns, a1_turns, c1_turns, leaf, t_key.data.toList, t_value.data.toList⟩, s4, by simp only [proofR, b_key, b_value]; rfl, by simp only [proofR, pProof, pBind, q_turns, g_leaf, g_key, g_value]; first | done | rfl | simp [turnR], ⟨r_turns, short_of q_turns, h_turns⟩⟩
def pSight : ByteArray → Got SightD := pBind pHeader fun header => pBind pCert fun cert => pBind pBench fun bn => fun z => .ok (⟨header, cert, bn.l, bn.a, bn.c⟩, z)
theorem good_sight : Good pSight := by unfold pSight; exact good_bind good_header fun _ => good_bind good_cert fun _ => good_bind good_bench fun _ => good_ok _
def sightR : Rdr SightD := { us := fun x => [.i x.header.c, .i x.header.h, .i x.header.p, .i x.header.t, .i x.header.g, .i x.header.s, .i x.header.r, .i x.header.b, .i x.header.o, .i x.cert.h, .i x.cert.r, .i x.cert.s, .b x.cert.has, .i x.cert.b, .p x.cert.fa, .n x.cert.froms.length, .n x.cert.fc, .p x.sa, .n x.seats.length, .n x.sc], cells := fun x => x.cells, strip := fun x => { x with cert := certR.strip x.cert, sa := none, sc := 0 }, held := fun w x => x.held w w.heap.size, p := pSight }
def cfg_psight : Cfg := { con := [(90, 0), (78, 0), (84, 0)], lents := [(90, [(0, 208)]), (78, [(0, 208)]), (84, [(0, 208)])], mine := [(0, 208)], pans := [90, 78, 84] }
def vcd_psight : { v : VC // vcOf Tryz.prog cfg_psight 181 = v } := by refine ⟨?v, ?h⟩; rotate_left; conv => lhs; reduce
theorem vce_psight : vcOf Tryz.prog cfg_psight 181 = vcd_psight.1 := vcd_psight.2
set_option linter.unusedVariables false in
theorem psight_ok : KeepsL Tryz.prog 181 (elemC sightR) cfg_psight.mine := by
 refine keepsL_v Tryz.func181 cfg_psight vce_psight [.p, .s] (elemC sightR) [(90, (elemC headerR)), (78, (elemC certR)), (84, (elemC benchR))] ⟨pheader_ok, pcert_ok, pbench_ok, trivial⟩ (by kernel_rfl) (fun _ _ _ h => h) ?_; intro x0 s0 w hp; refine ⟨[], vc_use ?Q ?h ?g⟩
 case h => intro O C s I b; conv => lhs; reduce
 dsimp only [std]; simp only [ctrOf, invOf, List.lookup, Nat.reduceBEq, Option.getD_some, Int.reduceOfNat, Int.reduceNegSucc]; have hs0 : Small s0 := hp; have bad : ∀ e, pSight s0 = .error e → (elemC sightR).pan [.p x0, .s s0] (stopCh e) := fun e h => ⟨e, h, rfl⟩
 intro a_header; refine ⟨fun ch ⟨e, g, hc⟩ => hc ▸ bad e (by simp only [pSight, pBind, show pHeader s0 = _ from g]), fun _ _ => hs0, fun l_header_0 l_header_1 l_header_2 l_header_3 l_header_4 l_header_5 l_header_6 l_header_7 l_header_8 s1 ⟨y_header, z_header, g_header, gl⟩ => ?_⟩; obtain rfl : s1 = z_header := by simpa using gl
 replace g_header : pHeader s0 = .ok (y_header, s1) := g_header; have hs1 : Small s1 := good_header _ _ _ g_header hs0; intro a_cert; refine ⟨fun ch ⟨e, g, hc⟩ => hc ▸ bad e (by simp only [pSight, pBind, g_header, show pCert s1 = _ from g]), fun _ _ => hs1, fun l_cert_0 l_cert_1 l_cert_2 l_cert_3 l_cert_4 l_cert_5 l_cert_6 l_cert_7 s2 ⟨y_cert, z_cert, g_cert, gl⟩ => ?_⟩; obtain rfl : s2 = z_cert := by simpa using gl
 replace g_cert : pCert s1 = .ok (y_cert, s2) := g_cert; have hs2 : Small s2 := good_cert _ _ _ g_cert hs1; intro a_bn; refine ⟨fun ch ⟨e, g, hc⟩ => hc ▸ bad e (by simp only [pSight, pBind, g_header, g_cert, show pBench s2 = _ from g]), fun _ _ => hs2, fun l_bn_0 l_bn_1 l_bn_2 s3 ⟨y_bn, z_bn, g_bn, gl⟩ => ?_⟩; obtain rfl : s3 = z_bn := by simpa using gl
 replace g_bn : pBench s2 = .ok (y_bn, s3) := g_bn; have hs3 : Small s3 := good_bench _ _ _ g_bn hs2; refine ⟨⟨⟨y_header, y_cert, y_bn.l, y_bn.a, y_bn.c⟩, s3, by simp only [sightR, pSight, pBind, g_header, g_cert, g_bn], rfl⟩, fun w hw => ?_⟩; obtain ⟨⟨⟨_, ⟨x_header, w_header, e_header, p_header, h_header⟩⟩, ⟨x_cert, w_cert, e_cert, p_cert, h_cert⟩⟩, ⟨x_bn, w_bn, e_bn, p_bn, h_bn⟩⟩ := hw; cases e_header; replace p_header : pHeader _ = .ok (_, _) := p_header; cases e_cert; replace p_cert : pCert _ = .ok (_, _) := p_cert; cases e_bn; replace p_bn : pBench _ = .ok (_, _) := p_bn; exact ⟨⟨x_header, x_cert, x_bn.l, x_bn.a, x_bn.c⟩, s3, rfl, by simp only [sightR, pSight, pBind, p_header, p_cert, p_bn]; first | done | rfl | simp [benchR, certR, headerR], ⟨h_header, h_cert, h_bn.1, h_bn.2⟩⟩
def pView : ByteArray → Got ViewD := pBind pNum fun c => pBind pNum fun wd => pBind pNum fun e => pBind pNum fun h => pBind pDig fun s => pBind pBench fun bn => fun z => .ok (⟨c, wd, e, h, s, bn.l, bn.a, bn.c⟩, z)
def viewR : Rdr ViewD := { us := fun x => [.i x.c, .i x.w, .i x.e, .i x.h, .i x.s, .p x.sa, .n x.seats.length, .n x.sc], cells := fun x => [], strip := fun x => { x with sa := none, sc := 0 }, held := fun w x => x.ok ∧ SeatsL w w.heap.size x.sa x.seats ∧ x.seats.length ≤ maxLen, p := pView }
def cfg_pview : Cfg := { con := [(58, 0), (150, 0), (84, 0)], lents := [(58, [(0, 208)]), (150, [(0, 208)]), (84, [(0, 208)])], mine := [(0, 208)], pans := [58, 150, 84] }
def vcd_pview : { v : VC // vcOf Tryz.prog cfg_pview 217 = v } := by refine ⟨?v, ?h⟩; rotate_left; conv => lhs; reduce
theorem vce_pview : vcOf Tryz.prog cfg_pview 217 = vcd_pview.1 := vcd_pview.2
set_option linter.unusedVariables false in
theorem pview_ok : KeepsL Tryz.prog 217 (elemC viewR) cfg_pview.mine := by
 refine keepsL_v Tryz.func217 cfg_pview vce_pview [.p, .s] (elemC viewR) [(58, PNumS), (150, PDigS), (84, (elemC benchR))] ⟨pnum_ok, pdig_ok, pbench_ok, trivial⟩ (by kernel_rfl) (fun _ _ _ h => h) ?_; intro x0 s0 w hp; refine ⟨[], vc_use ?Q ?h ?g⟩
 case h => intro O C s I b; conv => lhs; reduce
 dsimp only [std]; simp only [ctrOf, invOf, List.lookup, Nat.reduceBEq, Option.getD_some, Int.reduceOfNat, Int.reduceNegSucc]; have hs0 : Small s0 := hp; have bad : ∀ e, pView s0 = .error e → (elemC viewR).pan [.p x0, .s s0] (stopCh e) := fun e h => ⟨e, h, rfl⟩
 simp only [rdC, PNumS, numF, PDigS, digF]; intro a_c; refine ⟨fun ch ⟨e, g, hc⟩ => hc ▸ bad e (by simp only [pView, pBind, gI_err g]), fun _ _ => hs0, fun c s1 g_c => ?_⟩; replace g_c := gI_ok g_c; have hs1 : Small s1 := good_num _ _ _ g_c hs0; intro a_wd; refine ⟨fun ch ⟨e, g, hc⟩ => hc ▸ bad e (by simp only [pView, pBind, g_c, gI_err g]), fun _ _ => hs1, fun wd s2 g_wd => ?_⟩; replace g_wd := gI_ok g_wd; have hs2 : Small s2 := good_num _ _ _ g_wd hs1; intro a_e; refine ⟨fun ch ⟨e, g, hc⟩ => hc ▸ bad e (by simp only [pView, pBind, g_c, g_wd, gI_err g]), fun _ _ => hs2, fun e s3 g_e => ?_⟩; replace g_e := gI_ok g_e; have hs3 : Small s3 := good_num _ _ _ g_e hs2; intro a_h; refine ⟨fun ch ⟨e, g, hc⟩ => hc ▸ bad e (by simp only [pView, pBind, g_c, g_wd, g_e, gI_err g]), fun _ _ => hs3, fun h s4 g_h => ?_⟩; replace g_h := gI_ok g_h; have hs4 : Small s4 := good_num _ _ _ g_h hs3; intro a_s; refine ⟨fun ch ⟨e, g, hc⟩ => hc ▸ bad e (by simp only [pView, pBind, g_c, g_wd, g_e, g_h, gI_err g]), fun _ _ => hs4, fun s s5 g_s => ?_⟩; replace g_s := gI_ok g_s; have hs5 : Small s5 := good_dig _ _ _ g_s hs4; intro a_bn; refine ⟨fun ch ⟨e, g, hc⟩ => hc ▸ bad e (by simp only [pView, pBind, g_c, g_wd, g_e, g_h, g_s, show pBench s5 = _ from g]), fun _ _ => hs5, fun l_bn_0 l_bn_1 l_bn_2 s6 ⟨y_bn, z_bn, g_bn, gl⟩ => ?_⟩; obtain rfl : s6 = z_bn := by simpa using gl
 replace g_bn : pBench s5 = .ok (y_bn, s6) := g_bn; have hs6 : Small s6 := good_bench _ _ _ g_bn hs5; refine ⟨⟨⟨c, wd, e, h, s, y_bn.l, y_bn.a, y_bn.c⟩, s6, by simp only [viewR, pView, pBind, g_c, g_wd, g_e, g_h, g_s, g_bn], rfl⟩, fun w hw => ?_⟩; obtain ⟨⟨⟨⟨⟨⟨_, _⟩, _⟩, _⟩, _⟩, _⟩, ⟨x_bn, w_bn, e_bn, p_bn, h_bn⟩⟩ := hw; cases e_bn; replace p_bn : pBench _ = .ok (_, _) := p_bn; exact ⟨⟨c, wd, e, h, s, x_bn.l, x_bn.a, x_bn.c⟩, s6, rfl, by simp only [viewR, pView, pBind, g_c, g_wd, g_e, g_h, g_s, p_bn]; first | done | rfl | simp [benchR], ⟨pDig_spec g_s, h_bn.1, h_bn.2⟩⟩
def pResult : ByteArray → Got ResultD := pBind pNum fun c => pBind pNum fun u => pBind pNum fun v => pBind (pList 64 pNote) fun notes => fun z => .ok (⟨c, u, v, notes, none, 0⟩, z)
def resultR : Rdr ResultD := { us := fun x => [.i x.c, .i x.u, .i x.v, .p x.na, .n x.notes.length, .n x.nc], cells := fun x => [], strip := fun x => { x with na := none, nc := 0 }, held := fun w x => NotesL w w.heap.size x.na x.notes ∧ x.notes.length ≤ maxLen, p := pResult }
def cfg_presult : Cfg := { con := [(58, 0), (265, 0)], lents := [(58, [(0, 208)]), (265, [(0, 208)])], mine := [(0, 208)], pans := [58, 265] }
def vcd_presult : { v : VC // vcOf Tryz.prog cfg_presult 223 = v } := by refine ⟨?v, ?h⟩; rotate_left; conv => lhs; reduce
theorem vce_presult : vcOf Tryz.prog cfg_presult 223 = vcd_presult.1 := vcd_presult.2
set_option linter.unusedVariables false in
theorem presult_ok : KeepsL Tryz.prog 223 (elemC resultR) cfg_presult.mine := by
 refine keepsL_v Tryz.func223 cfg_presult vce_presult [.p, .s] (elemC resultR) [(58, PNumS), (265, (listC noteR 266 2))] ⟨pnum_ok, getsnote_ok, trivial⟩ (by kernel_rfl) (fun _ _ _ h => h) ?_; intro x0 s0 w hp; refine ⟨[], vc_use ?Q ?h ?g⟩
 case h => intro O C s I b; conv => lhs; reduce
 dsimp only [std]; simp only [ctrOf, invOf, List.lookup, Nat.reduceBEq, Option.getD_some, Int.reduceOfNat, Int.reduceNegSucc]; have hs0 : Small s0 := hp; have bad : ∀ e, pResult s0 = .error e → (elemC resultR).pan [.p x0, .s s0] (stopCh e) := fun e h => ⟨e, h, rfl⟩
 simp only [rdC, PNumS, numF]; intro a_c; refine ⟨fun ch ⟨e, g, hc⟩ => hc ▸ bad e (by simp only [pResult, pBind, gI_err g]), fun _ _ => hs0, fun c s1 g_c => ?_⟩; replace g_c := gI_ok g_c; have hs1 : Small s1 := good_num _ _ _ g_c hs0; intro a_u; refine ⟨fun ch ⟨e, g, hc⟩ => hc ▸ bad e (by simp only [pResult, pBind, g_c, gI_err g]), fun _ _ => hs1, fun u s2 g_u => ?_⟩; replace g_u := gI_ok g_u; have hs2 : Small s2 := good_num _ _ _ g_u hs1; intro a_v; refine ⟨fun ch ⟨e, g, hc⟩ => hc ▸ bad e (by simp only [pResult, pBind, g_c, g_u, gI_err g]), fun _ _ => hs2, fun v s3 g_v => ?_⟩; replace g_v := gI_ok g_v; have hs3 : Small s3 := good_num _ _ _ g_v hs2; intro a_notes; refine ⟨fun ch ⟨e, g, hc⟩ => hc ▸ bad e (by simp only [pResult, pBind, g_c, g_u, g_v, show pList 64 pNote s3 = _ from g]), fun _ _ => ⟨hs3, rfl, by decide⟩, fun a1_notes n_notes c1_notes s4 ⟨y_notes, g_notes, _⟩ => ?_⟩; replace g_notes : pList 64 pNote s3 = .ok (y_notes, s4) := g_notes; have hs4 : Small s4 := good_list _ good_note _ _ _ g_notes hs3; refine ⟨⟨⟨c, u, v, y_notes, none, 0⟩, s4, by simp only [resultR, pResult, pBind, g_c, g_u, g_v, g_notes], rfl⟩, fun w hw => ?_⟩; obtain ⟨⟨⟨⟨_, _⟩, _⟩, _⟩, ⟨l_notes, q_notes, m_notes, r_notes, h_notes⟩⟩ := hw; subst m_notes; replace q_notes : pList 64 pNote _ = .ok (_, _) := q_notes; exact ⟨⟨c, u, v, l_notes, a1_notes, c1_notes⟩, s4, rfl, by simp only [resultR, pResult, pBind, g_c, g_u, g_v, q_notes]; first | done | rfl | simp [noteR], ⟨r_notes, short_of q_notes⟩⟩
def cfg_gcert : Cfg := { con := [(138, 0), (78, 0)], loops := [(4, { slots := [8, 13], blks := [0], rows := [8], extra := [.var 5, .var 6] })], rows := [(8, 62)], lents := [(138, [(0, 208)]), (78, [(0, 208)])], mine := [(0, 208)], pans := [138, 78], fns := [(18, 78)] }
def vcd_gcert : { v : VC // vcOf Tryz.prog cfg_gcert 270 = v } := by refine ⟨?v, ?h⟩; rotate_left; conv => lhs; reduce
theorem vce_gcert : vcOf Tryz.prog cfg_gcert 270 = vcd_gcert.1 := vcd_gcert.2
theorem getscert_ok : KeepsL Tryz.prog 270 (listC certR 78 6) cfg_gcert.mine := by
 refine keepsL_v Tryz.func270 cfg_gcert vce_gcert [.p, .i, .v, .s] (listC certR 78 6) [(138, PUpToS), (78, elemC certR)] ⟨pupto_ok, pcert_ok, trivial⟩ (by kernel_rfl) (fun _ _ _ h => h) ?_; intro x0 x1 x2 x3 w hp; refine ⟨[(4, listInv certR)], vc_use ?Q ?h ?g⟩
 case h => intro O C s I b; conv => lhs; reduce
 dsimp only [std]; simp only [ctrOf, invOf, List.lookup, Nat.reduceBEq, Option.getD_some, Int.reduceOfNat, Int.reduceNegSucc]; obtain ⟨hs, rfl, hm⟩ : Small x3 ∧ x2 = .func (.func 78) #[] #[] ∧ x1 ≤ 1000000 := hp; simp only [PUpToS, rdC, upToF]; intro x4; refine ⟨fun ch ⟨e, h1, h2⟩ => h2 ▸ list_pan1 (gI_err h1) _, fun _ _ => hs, fun x5 x6 h1 => ?_⟩; have h1 := gI_ok h1; obtain ⟨i1, i2⟩ := list_init (R := certR) h1 hs hm; refine ⟨i1, fun w _ => i2 w, fun m xs k sk hi => ⟨fun hk => ⟨trivial, fun a => ⟨fun ch ⟨e, g1, g2⟩ => g2 ▸ list_pan2 h1 hi hk g1 _, fun _ _ => hi.2.2.2.2.1, fun l0 l1 l2 l3 l4 l5 l6 l7 s' ⟨y, z, g, gl⟩ => ?_⟩⟩, fun hk A c => ?_⟩⟩
 ·obtain rfl : s' = z := by simpa using gl
  obtain ⟨n1, n2, n3, n4, n5⟩ := list_next (R := certR) hi hk g (good_cert _ _ _ g hi.2.2.2.2.1) 64 (by decide) _; refine ⟨n1, n2, n3, n4, fun w ⟨⟨_, f⟩, ⟨x, z, e1, e2, e3⟩⟩ => ?_, n5 _, trivial⟩; cases e1; obtain ⟨l, q1, q2, q3⟩ := list_step (R := certR) hi.1 f e2 e3; exact ⟨l, q1, (show xs ++ _ = _ from by rw [← q2]; exact congrArg (xs ++ ·) (by kernel_rfl)), q3⟩
 ·obtain ⟨f1, f2⟩ := list_fin (R := certR) (A := A) (c := c) (a := x0) (fg := 78) (size := 6) h1 hi hk (.func (.func 78) #[] #[]); exact ⟨f1, fun w ⟨⟨_, f⟩, o⟩ => f2 f o⟩
def cfg_gproof : Cfg := { con := [(138, 0), (96, 0)], loops := [(4, { slots := [8, 13], blks := [0], rows := [8], extra := [.var 5, .var 6] })], rows := [(8, 87)], lents := [(138, [(0, 208)]), (96, [(0, 208)])], mine := [(0, 208)], pans := [138, 96], fns := [(18, 96)] }
def vcd_gproof : { v : VC // vcOf Tryz.prog cfg_gproof 182 = v } := by refine ⟨?v, ?h⟩; rotate_left; conv => lhs; reduce
theorem vce_gproof : vcOf Tryz.prog cfg_gproof 182 = vcd_gproof.1 := vcd_gproof.2
theorem getsproof_ok : KeepsL Tryz.prog 182 (listC proofR 96 4) cfg_gproof.mine := by
 refine keepsL_v Tryz.func182 cfg_gproof vce_gproof [.p, .i, .v, .s] (listC proofR 96 4) [(138, PUpToS), (96, elemC proofR)] ⟨pupto_ok, pproof_ok, trivial⟩ (by kernel_rfl) (fun _ _ _ h => h) ?_; intro x0 x1 x2 x3 w hp; refine ⟨[(4, listInv proofR)], vc_use ?Q ?h ?g⟩
 case h => intro O C s I b; conv => lhs; reduce
 dsimp only [std]; simp only [ctrOf, invOf, List.lookup, Nat.reduceBEq, Option.getD_some, Int.reduceOfNat, Int.reduceNegSucc]; obtain ⟨hs, rfl, hm⟩ : Small x3 ∧ x2 = .func (.func 96) #[] #[] ∧ x1 ≤ 1000000 := hp; simp only [PUpToS, rdC, upToF]; intro x4; refine ⟨fun ch ⟨e, h1, h2⟩ => h2 ▸ list_pan1 (gI_err h1) _, fun _ _ => hs, fun x5 x6 h1 => ?_⟩; have h1 := gI_ok h1; obtain ⟨i1, i2⟩ := list_init (R := proofR) h1 hs hm; refine ⟨i1, fun w _ => i2 w, fun m xs k sk hi => ⟨fun hk => ⟨trivial, fun a => ⟨fun ch ⟨e, g1, g2⟩ => g2 ▸ list_pan2 h1 hi hk g1 _, fun _ _ => hi.2.2.2.2.1, fun l0 l1 l2 l3 l4 l5 s' ⟨y, z, g, gl⟩ => ?_⟩⟩, fun hk A c => ?_⟩⟩
 ·obtain rfl : s' = z := by simpa using gl
  obtain ⟨n1, n2, n3, n4, n5⟩ := list_next (R := proofR) hi hk g (good_proof _ _ _ g hi.2.2.2.2.1) 64 (by decide) _; refine ⟨n1, n2, n3, n4, fun w ⟨⟨_, f⟩, ⟨x, z, e1, e2, e3⟩⟩ => ?_, n5 _, trivial⟩; cases e1; obtain ⟨l, q1, q2, q3⟩ := list_step (R := proofR) hi.1 f e2 e3; exact ⟨l, q1, (show xs ++ _ = _ from by rw [← q2]; exact congrArg (xs ++ ·) (by kernel_rfl)), q3⟩
 ·obtain ⟨f1, f2⟩ := list_fin (R := proofR) (A := A) (c := c) (a := x0) (fg := 96) (size := 4) h1 hi hk (.func (.func 96) #[] #[]); exact ⟨f1, fun w ⟨⟨_, f⟩, o⟩ => f2 f o⟩
def cfg_gsight : Cfg := { con := [(138, 0), (181, 0)], loops := [(4, { slots := [8, 13], blks := [0], rows := [8], extra := [.var 5, .var 6] })], rows := [(8, 245)], lents := [(138, [(0, 208)]), (181, [(0, 208)])], mine := [(0, 208)], pans := [138, 181], fns := [(18, 181)] }
def vcd_gsight : { v : VC // vcOf Tryz.prog cfg_gsight 180 = v } := by refine ⟨?v, ?h⟩; rotate_left; conv => lhs; reduce
theorem vce_gsight : vcOf Tryz.prog cfg_gsight 180 = vcd_gsight.1 := vcd_gsight.2
theorem getssight_ok : KeepsL Tryz.prog 180 (listC sightR 181 16) cfg_gsight.mine := by
 refine keepsL_v Tryz.func180 cfg_gsight vce_gsight [.p, .i, .v, .s] (listC sightR 181 16) [(138, PUpToS), (181, elemC sightR)] ⟨pupto_ok, psight_ok, trivial⟩ (by kernel_rfl) (fun _ _ _ h => h) ?_; intro x0 x1 x2 x3 w hp; refine ⟨[(4, listInv sightR)], vc_use ?Q ?h ?g⟩
 case h => intro O C s I b; conv => lhs; reduce
 dsimp only [std]; simp only [ctrOf, invOf, List.lookup, Nat.reduceBEq, Option.getD_some, Int.reduceOfNat, Int.reduceNegSucc]; obtain ⟨hs, rfl, hm⟩ : Small x3 ∧ x2 = .func (.func 181) #[] #[] ∧ x1 ≤ 1000000 := hp; simp only [PUpToS, rdC, upToF]; intro x4; refine ⟨fun ch ⟨e, h1, h2⟩ => h2 ▸ list_pan1 (gI_err h1) _, fun _ _ => hs, fun x5 x6 h1 => ?_⟩; have h1 := gI_ok h1; obtain ⟨i1, i2⟩ := list_init (R := sightR) h1 hs hm; refine ⟨i1, fun w _ => i2 w, fun m xs k sk hi => ⟨fun hk => ⟨trivial, fun a => ⟨fun ch ⟨e, g1, g2⟩ => g2 ▸ list_pan2 h1 hi hk g1 _, fun _ _ => hi.2.2.2.2.1, fun l0 l1 l2 l3 l4 l5 l6 l7 l8 l9 l10 l11 l12 l13 l14 l15 l16 l17 l18 l19 s' ⟨y, z, g, gl⟩ => ?_⟩⟩, fun hk A c => ?_⟩⟩
 ·obtain rfl : s' = z := by simpa using gl
  obtain ⟨n1, n2, n3, n4, n5⟩ := list_next (R := sightR) hi hk g (good_sight _ _ _ g hi.2.2.2.2.1) 160 (by decide) _; refine ⟨n1, n2, n3, n4, fun w ⟨⟨_, f⟩, ⟨x, z, e1, e2, e3⟩⟩ => ?_, n5 _, trivial⟩; cases e1; obtain ⟨l, q1, q2, q3⟩ := list_step (R := sightR) hi.1 f e2 e3; exact ⟨l, q1, (show xs ++ _ = _ from by rw [← q2]; exact congrArg (xs ++ ·) (by kernel_rfl)), q3⟩
 ·obtain ⟨f1, f2⟩ := list_fin (R := sightR) (A := A) (c := c) (a := x0) (fg := 181) (size := 16) h1 hi hk (.func (.func 181) #[] #[]); exact ⟨f1, fun w ⟨⟨_, f⟩, o⟩ => f2 f o⟩
def Rel (b : ByteArray) (a e : Int) : Except Int ByteArray := if e = 0 then .ok (b.extract a.toNat b.size) else .error e
def okR (b : ByteArray) (a : Int) : Prop := 0 ≤ a ∧ a ≤ b.size ∧ Small b
def Reads {α : Type} (q : Except Int ByteArray) (p : ByteArray → Got α) (q' : Except Int ByteArray) (v : α) : Prop := q.bind p = q'.map fun s => (v, s)
theorem bind_step {α β : Type} {p : ByteArray → Got α} {f : α → ByteArray → Got β} {q q' : Except Int ByteArray} {v : α} (h : Reads q p q' v) : q.bind (pBind p f) = q'.bind (f v) := by
 unfold Reads at h; cases q with
 | error c =>
  cases q' with
  | error c' => simpa [Except.bind, Except.map] using h
  | ok s => simp [Except.bind, Except.map] at h
 | ok s =>
  cases q' with
  | error c' =>
   simp only [Except.bind, Except.map] at h ⊢
   unfold pBind; rw [h]
  | ok s' =>
   simp only [Except.bind, Except.map] at h ⊢
   unfold pBind; rw [h]
theorem Rel.zero {b : ByteArray} {a e : Int} (h : e = 0) : Rel b a e = .ok (b.extract a.toNat b.size) := if_pos h
theorem Rel.bad {b : ByteArray} {a e : Int} (h : ¬ e = 0) : Rel b a e = .error e := if_neg h
theorem err_reads {α : Type} {b : ByteArray} {a e : Int} (h : ¬ e = 0) (p : ByteArray → Got α) : (Rel b a e).bind p = .error e := by rw [Rel.bad h]; rfl
def rbadO : List U → List U
 | [.p _, .i c, .s b, .i a, .i e] => [.s b, .i a, .i (if e = 0 then c else e)]
 | _ => []
def RBadS : Ctr := { pre := fun _ _ => True, post := fun us os => os = rbadO us, fact := fun _ _ _ => True }
def cfg_rbad : Cfg := { mine := [(0, 122)] }
def vcd_rbad : { v : VC // vcOf Tryz.prog cfg_rbad 244 = v } := by refine ⟨?v, ?h⟩; rotate_left; conv => lhs; reduce
theorem vce_rbad : vcOf Tryz.prog cfg_rbad 244 = vcd_rbad.1 := vcd_rbad.2
theorem rbad_ok : KeepsL Tryz.prog 244 RBadS cfg_rbad.mine := by
 refine keepsL_v Tryz.func244 cfg_rbad vce_rbad [.p, .i, .s, .i, .i] RBadS [] trivial (by kernel_rfl) (fun _ _ _ h => h) ?_; intro x0 x1 x2 x3 x4 w hp; refine ⟨[], vc_use ?Q ?h ?g⟩
 case h => intro O C s I b; conv => lhs; reduce
 dsimp only [std]; simp +contextual [RBadS, rbadO]
def gr1P : List U → Prop
 | [.p _, .i n, .s b, .i a, .i _] => okR b a ∧ 0 ≤ n ∧ n ≤ 1000000
 | _ => False
def RTakeS : Ctr where
 pre us _ := gr1P us
 post us os := match us with
  | [.p _, .i n, .s b, .i a, .i e] => ∃ t a' e', os = [.s t, .s b, .i a', .i e'] ∧ okR b a' ∧ Reads (Rel b a e) (pTake n) (Rel b a' e') t ∧ (t.size : Int) ≤ n ∧ (¬ e' = 0 → t = ByteArray.empty)
  | _ => False
 fact _ _ _ := True
def cfg_rtake : Cfg := { con := [(244, 0)], lents := [(244, [(0, 122)])], mine := [(0, 122)] }
def vcd_rtake : { v : VC // vcOfP Tryz.prog cfg_rtake [(1, [1000006, 27, 1006013, 999999, 26, 30, 34, 38, 42, 46, 50, 54, 58, 62, 66, 70, 72]), (5, [1000016])] 243 = v } := by refine ⟨?v, ?h⟩; rotate_left; conv => lhs; reduce
theorem vce_rtake : vcOf Tryz.prog cfg_rtake 243 = vcd_rtake.1 := by kernel_rfl
theorem rtake_ok : KeepsL Tryz.prog 243 RTakeS cfg_rtake.mine := by
 refine keepsL_v Tryz.func243 cfg_rtake vce_rtake [.p, .i, .s, .i, .i] RTakeS [(244, RBadS)] ⟨rbad_ok, trivial⟩ (by kernel_rfl) (fun _ _ _ h => h) ?_; intro x0 x1 x2 x3 x4 w hp; refine ⟨[], vc_use ?Q ?h ?g⟩
 case h => intro O C s I b; conv => lhs; reduce
 dsimp only [std]; simp only [ctrOf, invOf, List.lookup, Nat.reduceBEq, Option.getD_some, Int.reduceOfNat, Int.reduceNegSucc]; obtain ⟨⟨h1, h2, h3⟩, h4, h5⟩ : okR x2 x3 ∧ 0 ≤ x1 ∧ x1 ≤ 1000000 := hp; have h3' : x2.size ≤ 1000000000000 := h3; have hE : (⟨#[]⟩ : ByteArray) = ByteArray.empty := rfl; have hsz : (x2.extract x3.toNat x2.size).size = x2.size - x3.toNat := by simp [ByteArray.size_extract]
 simp only [RBadS, rbadO]; refine ⟨fun he => ⟨by omega, fun hl x => ⟨fun _ _ => trivial, fun b' a' e' ho => ?_⟩, fun hl => ?_⟩, fun he => ?_⟩
 ·simp only [he, if_true, List.cons.injEq, U.s.injEq, U.i.injEq, and_true] at ho; obtain ⟨rfl, rfl, rfl⟩ := ho; refine ⟨fun _ => ⟨⟨ByteArray.empty, a', 1, by rw [hE], ⟨h1, h2, h3⟩, ?_, by simp; omega, fun _ => rfl⟩, fun _ _ => trivial⟩, fun h => absurd h (by decide)⟩; unfold Reads; rw [Rel.zero he]; show pTake x1 _ = _; unfold pTake; rw [if_pos (by rw [hsz]; omega)]; rfl
 ·refine ⟨by omega, by omega, by omega, h1, by omega, ⟨_, _, _, rfl, ⟨by omega, by omega, h3⟩, ?_, ?_, fun h => absurd he h⟩, fun _ _ => trivial⟩
  ·unfold Reads; rw [Rel.zero he, Rel.zero he]; show pTake x1 _ = .ok _; unfold pTake; rw [if_neg (by rw [hsz]; omega), hsz]; simp only [ByteArray.extract_extract]; rw [show min (x3.toNat + x1.toNat) x2.size = (x3 + x1).toNat by omega, show x3.toNat + 0 = x3.toNat by omega, show x3.toNat + x1.toNat = (x3 + x1).toNat by omega, show min (x3.toNat + (x2.size - x3.toNat)) x2.size = x2.size by omega]
  ·simp only [ByteArray.size_extract]; omega
 ·refine ⟨⟨ByteArray.empty, x3, x4, by rw [hE], ⟨h1, h2, h3⟩, ?_, by simp; omega, fun _ => rfl⟩, fun _ _ => trivial⟩; unfold Reads; rw [Rel.bad he]; rfl
theorem take_size {q q' : Except Int ByteArray} {n : Int} {t s : ByteArray} (h : Reads q (pTake n) q' t) (hq : q' = .ok s) (h0 : 0 ≤ n) : (t.size : Int) = n := by
 unfold Reads at h; subst hq; cases q with
 | error c => simp [Except.bind, Except.map] at h
 | ok z =>
  simp only [Except.bind, Except.map] at h; unfold pTake at h; split at h
  ·cases h
  ·next hl =>
   simp only [Except.ok.injEq, Prod.mk.injEq] at h; rw [← h.1, ByteArray.size_extract]; omega
def upTo2 (most : Int) (t : ByteArray) (s : ByteArray) : Got Int := if 0 < t.size ∧ byteAt t 0 = 0 then .error 2 else if most < (numOf t.data.toList : Int) then .error 3 else .ok (numOf t.data.toList, s)
def upTo1 (most : Int) (k : ByteArray) (s : ByteArray) : Got Int := if 5 < byteAt k 0 then .error 2 else pBind (pTake (byteAt k 0 : Int)) (upTo2 most) s
theorem pUpTo_eq (most : Int) : pUpTo most = pBind (pTake 1) (upTo1 most) := by
 funext s; unfold pUpTo pBind upTo1; cases pTake 1 s with
 | error e => rfl
 | ok r =>
  obtain ⟨k, s1⟩ := r; show (if _ then _ else _) = (if _ then _ else _); split
  ·rfl
  ·unfold pBind upTo2; cases pTake (byteAt k 0 : Int) s1 <;> rfl
theorem upTo_fin (b : ByteArray) (a e most : Int) (t : ByteArray) (hem : ¬ e = 0 → t = ByteArray.empty) (hm : 0 ≤ most) (e1 e2 : Int) (h1 : e1 = if 0 < t.size ∧ byteAt t 0 = 0 then (if e = 0 then 2 else e) else e) (h2 : e2 = if most < (numOf t.data.toList : Int) then (if e1 = 0 then 3 else e1) else e1) (n : Int) (hn : n = if e2 = 0 then (numOf t.data.toList : Int) else 0) :
  (Rel b a e).bind (upTo2 most t) = (Rel b a e2).map (fun s => (n, s)) ∧ 0 ≤ n ∧ n ≤ most := by
 by_cases he : e = 0
 ·subst he; rw [Rel.zero rfl]; show upTo2 most t _ = _ ∧ _; unfold upTo2
  by_cases hz : 0 < t.size ∧ byteAt t 0 = 0
  ·simp only [if_pos hz, if_true] at h1 ⊢
   subst h1; have : e2 = 2 := by rw [h2]; split <;> simp
   subst this; exact ⟨by rw [Rel.bad (by decide)]; rfl, by simp [hn], by simp [hn, hm]⟩
  ·simp only [if_neg hz] at h1 ⊢
   subst h1
   by_cases hg : most < (numOf t.data.toList : Int)
   ·simp only [if_pos hg, if_true] at h2 ⊢
    subst h2; exact ⟨by rw [Rel.bad (by decide)]; rfl, by simp [hn], by simp [hn, hm]⟩
   ·simp only [if_neg hg] at h2 ⊢
    subst h2; rw [if_pos rfl] at hn; subst hn; exact ⟨by rw [Rel.zero rfl]; rfl, by omega, by omega⟩
 ·have ht := hem he; subst ht; have e1e : e1 = e := by rw [h1, if_neg (fun h => by have := h.1; simp at this)]
  have hz : numOf ByteArray.empty.data.toList = 0 := rfl; have e2e : e2 = e := by rw [h2, hz, if_neg (by omega), e1e]
  rw [e2e, err_reads he, Rel.bad he]; rw [e2e, if_neg he] at hn; subst hn; exact ⟨rfl, by omega, hm⟩
def RUpToS : Ctr where
 pre us _ := match us with
  | [.p _, .i n, .s b, .i a, .i _] => okR b a ∧ 0 ≤ n
  | _ => False
 post us os := match us with
  | [.p _, .i m, .s b, .i a, .i e] => ∃ n a' e', os = [.i n, .s b, .i a', .i e'] ∧ okR b a' ∧ Reads (Rel b a e) (pUpTo m) (Rel b a' e') n ∧ 0 ≤ n ∧ n ≤ m
  | _ => False
 fact _ _ _ := True
def rupInv : Inv where
 inv us := match us with
  | [.i n, .i k, .s t] => t.size ≤ 5 ∧ 0 ≤ k ∧ k ≤ t.size ∧ n = numOf (t.data.toList.take k.toNat)
  | _ => False
 mea us := match us with
  | [.i _, .i k, .s t] => ((t.size : Int) - k).toNat
  | _ => 0
def cfg_rupto : Cfg := { con := [(243, 0), (244, 0)], loops := [(10, { slots := [7, 8], extra := [.var 11] })], lents := [(243, [(0, 122)]), (244, [(0, 122)])], mine := [(0, 122)] }
def vcd_rupto : { v : VC // vcOf Tryz.prog cfg_rupto 147 = v } := by refine ⟨?v, ?h⟩; rotate_left; conv => lhs; reduce
theorem vce_rupto : vcOf Tryz.prog cfg_rupto 147 = vcd_rupto.1 := vcd_rupto.2
theorem rupto_ok : KeepsL Tryz.prog 147 RUpToS cfg_rupto.mine := by
 refine keepsL_v Tryz.func147 cfg_rupto vce_rupto [.p, .i, .s, .i, .i] RUpToS [(243, RTakeS), (244, RBadS)] ⟨rtake_ok, rbad_ok, trivial⟩ (by kernel_rfl) (fun _ _ _ h => h) ?_; intro x0 most b a e w hp; refine ⟨[(10, rupInv)], vc_use ?Q ?h ?g⟩
 case h => intro O C s I b; conv => lhs; reduce
 dsimp only [std]; simp only [ctrOf, invOf, List.lookup, Nat.reduceBEq, Option.getD_some, Int.reduceOfNat, Int.reduceNegSucc]; obtain ⟨ok0, hm⟩ : okR b a ∧ 0 ≤ most := hp; have fin : ∀ n a' e', okR b a' → (Rel b a e).bind (pUpTo most) = (Rel b a' e').map (fun s => (n, s)) → 0 ≤ n → n ≤ most → RUpToS.post [.p x0, .i most, .s b, .i a, .i e] [.i n, .s b, .i a', .i e'] ∧ ∀ (w : World) (A : Prop), A → RUpToS.fact [.p x0, .i most, .s b, .i a, .i e] [.i n, .s b, .i a', .i e'] w := fun n a' e' h1 h2 h3 h4 => ⟨⟨n, a', e', rfl, h1, h2, h3, h4⟩, fun _ _ _ => trivial⟩
 intro x5; refine ⟨fun _ _ => ⟨ok0, by decide, by decide⟩, fun k b1 a1 e1 ⟨t1, a1', e1', ho, ok1, W1, _, em1⟩ => ?_⟩; simp only [List.cons.injEq, U.s.injEq, U.i.injEq, and_true] at ho; obtain ⟨rfl, rfl, rfl, rfl⟩ := ho; have B1 : (Rel b1 a e).bind (pUpTo most) = (Rel b1 a1 e1).bind (upTo1 most k) := by rw [pUpTo_eq]; exact bind_step W1
 refine ⟨fun h => ?_, fun h => ?_⟩
 ·obtain ⟨f1, f2⟩ := fin 0 a1 e1 ok1 (B1.trans (by rw [err_reads h, Rel.bad h]; rfl)) (by omega) hm; exact ⟨f1, fun w hw => f2 w _ hw⟩
 subst h; have z1 := take_size W1 (Rel.zero rfl) (by decide); have hb := byte_lt k 0; have hw : IntKind.wrap .i64 ((k.data.toList.getD 0 0).toNat : Int) = (byteAt k 0 : Int) := IntWalk.i64_in _ (by unfold byteAt at hb; omega); rw [Rel.zero rfl] at B1; simp only [RBadS, rbadO]; refine ⟨by omega, fun h5 => ?_, fun h5 => ?_⟩
 ·refine fun x10 => ⟨fun _ _ => trivial, fun b2 a2 e2 ho => ?_⟩
  simp only [if_true, List.cons.injEq, U.s.injEq, U.i.injEq, and_true] at ho; obtain ⟨rfl, rfl, rfl⟩ := ho; obtain ⟨f1, f2⟩ := fin 0 a2 2 ok1 (B1.trans (by show upTo1 most k _ = _; unfold upTo1; rw [if_pos (by unfold byteAt; omega), Rel.bad (by decide)]; rfl)) (by omega) hm; exact ⟨f1, fun w hw => f2 w _ hw⟩
 have h5' : ¬ 5 < byteAt k 0 := by unfold byteAt; omega
 intro x10; rw [hw]; refine ⟨fun _ _ => ⟨ok1, by omega, by omega⟩, fun t b2 a2 e2 ⟨t2, a2', e2', ho, ok2, W2, sz2, em2⟩ => ?_⟩; simp only [List.cons.injEq, U.s.injEq, U.i.injEq, and_true] at ho; obtain ⟨rfl, rfl, rfl, rfl⟩ := ho; rw [Rel.zero rfl] at W2; have B2 : (Rel b2 a e).bind (pUpTo most) = (Rel b2 a2 e2).bind (upTo2 most t) := by
  rw [B1]; show upTo1 most k _ = _; unfold upTo1; rw [if_neg h5']; exact bind_step W2
 refine ⟨⟨by omega, by decide, by omega, rfl⟩, fun _ _ => trivial, fun n j ⟨v1, v2, v3, v4⟩ => ⟨fun hlt => ?_, fun hge => ?_⟩⟩
 ·have hl := size_list t; have hbk : (t.data.toList.getD j.toNat 0).toNat < 256 := byte_lt t j.toNat; have hnl := numOf_lt _ (t.data.toList.take j.toNat) rfl; have hk : (t.data.toList.take j.toNat).length ≤ 4 := by rw [List.length_take]; omega
  have hnl2 : numOf (t.data.toList.take j.toNat) < 1099511627776 := Nat.lt_of_lt_of_le hnl (Nat.le_trans (Nat.pow_le_pow_right (by decide) hk) (by decide)); have hw2 : IntKind.wrap .i64 ((t.data.toList.getD j.toNat 0).toNat : Int) = ((t.data.toList.getD j.toNat 0).toNat : Int) := IntWalk.i64_in _ (by omega); have hnx : n * 256 + ((t.data.toList.getD j.toNat 0).toNat : Int) = (numOf (t.data.toList.take (j + 1).toNat) : Int) := by
   rw [v4, show (j + 1).toNat = j.toNat + 1 by omega, numOf_take (by omega)]; omega
  rw [hw2]; exact ⟨⟨by omega, by omega⟩, v2, ⟨by omega, by omega⟩, ⟨by omega, by omega⟩, ⟨v1, by omega, by omega, hnx⟩, fun _ _ => trivial, by show ((t.size : Int) - (j + 1)).toNat < ((t.size : Int) - j).toNat; omega, trivial⟩
 ·have hl := size_list t; have hall : t.data.toList.take j.toNat = t.data.toList := List.take_of_length_le (by omega); rw [hall] at v4; subst v4; have F := fun e1 e2' h1 h2 n hn => upTo_fin b2 a2 e2 most t em2 hm e1 e2' h1 h2 n hn
  have fin2 : ∀ (e1 e3 n : Int), (e1 = if 0 < t.size ∧ byteAt t 0 = 0 then (if e2 = 0 then 2 else e2) else e2) → (e3 = if most < (numOf t.data.toList : Int) then (if e1 = 0 then 3 else e1) else e1) → (n = if e3 = 0 then (numOf t.data.toList : Int) else 0) → RUpToS.post [.p x0, .i most, .s b2, .i a, .i e] [.i n, .s b2, .i a2, .i e3] ∧ ∀ (w : World) (A : Prop), A → RUpToS.fact [.p x0, .i most, .s b2, .i a, .i e] [.i n, .s b2, .i a2, .i e3] w := fun e1 e3 n h1 h2 h3 => by
   obtain ⟨g1, g2, g3⟩ := F e1 e3 h1 h2 n h3; exact fin n a2 e3 ok2 (B2.trans g1) g2 g3
  have hbn : byteAt t 0 = (t.data.toList.getD 0 0).toNat := rfl; have tl : ∀ (e1 : Int), (e1 = if 0 < t.size ∧ byteAt t 0 = 0 then (if e2 = 0 then 2 else e2) else e2) → ∀ (e3 : Int), (e3 = if most < (numOf t.data.toList : Int) then (if e1 = 0 then 3 else e1) else e1) → (¬ e3 = 0 → RUpToS.post [.p x0, .i most, .s b2, .i a, .i e] [.i 0, .s b2, .i a2, .i e3]) ∧ (e3 = 0 → RUpToS.post [.p x0, .i most, .s b2, .i a, .i e] [.i (numOf t.data.toList : Int), .s b2, .i a2, .i e3]) := fun e1 h1 e3 h3 => ⟨fun h => (fin2 e1 e3 0 h1 h3 (by rw [if_neg h])).1, fun h => (fin2 e1 e3 _ h1 h3 (by rw [if_pos h])).1⟩
  have goE : ∀ e1, (e1 = if 0 < t.size ∧ byteAt t 0 = 0 then (if e2 = 0 then 2 else e2) else e2) → (¬ most < (numOf t.data.toList : Int)) → (¬ e1 = 0 → RUpToS.post [.p x0, .i most, .s b2, .i a, .i e] [.i 0, .s b2, .i a2, .i e1]) ∧ (e1 = 0 → RUpToS.post [.p x0, .i most, .s b2, .i a, .i e] [.i (numOf t.data.toList : Int), .s b2, .i a2, .i e1]) := fun e1 h1 hn => tl e1 h1 e1 (by rw [if_neg hn])
  have goG : ∀ e1, (e1 = if 0 < t.size ∧ byteAt t 0 = 0 then (if e2 = 0 then 2 else e2) else e2) → (most < (numOf t.data.toList : Int)) → (¬ (if e1 = 0 then (3 : Int) else e1) = 0 → RUpToS.post [.p x0, .i most, .s b2, .i a, .i e] [.i 0, .s b2, .i a2, .i (if e1 = 0 then (3 : Int) else e1)]) ∧ ((if e1 = 0 then (3 : Int) else e1) = 0 → RUpToS.post [.p x0, .i most, .s b2, .i a, .i e] [.i (numOf t.data.toList : Int), .s b2, .i a2, .i (if e1 = 0 then (3 : Int) else e1)]) := fun e1 h1 hn => tl e1 h1 _ (by rw [if_pos hn])
  have ff : ∀ (os : List U) (w : World), RUpToS.fact [.p x0, .i most, .s b2, .i a, .i e] os w := fun _ _ => trivial
  have e1z : (0 : Int) < (t.size : Int) → ((t.data.toList.getD 0 0).toNat : Int) = 0 → (if e2 = 0 then (2 : Int) else e2) = if 0 < t.size ∧ byteAt t 0 = 0 then (if e2 = 0 then 2 else e2) else e2 := fun h1 h2 => (if_pos (c := 0 < t.size ∧ byteAt t 0 = 0) ⟨by omega, by omega⟩).symm
  have e1n : ¬ ((t.data.toList.getD 0 0).toNat : Int) = 0 → e2 = if 0 < t.size ∧ byteAt t 0 = 0 then (if e2 = 0 then 2 else e2) else e2 := fun h2 => by rw [if_neg (fun h => by have := h.2; omega)]
  have e1s : ¬ (0 : Int) < (t.size : Int) → e2 = if 0 < t.size ∧ byteAt t 0 = 0 then (if e2 = 0 then 2 else e2) else e2 := fun h2 => by rw [if_neg (fun h => by have := h.1; omega)]
  refine ⟨fun hs => ⟨fun hz x => ⟨fun _ _ => trivial, fun b3 a3 e3 ho => ?_⟩, fun hz => ?_⟩, fun hs => ?_⟩
  ·simp only [List.cons.injEq, U.s.injEq, U.i.injEq, and_true] at ho; obtain ⟨q1, q2, q3⟩ := ho; rw [q1, q2, q3]; have E := e1z hs hz; refine ⟨fun hg x => ⟨fun _ _ => trivial, fun b4 a4 e4 ho => ?_⟩, fun hg => ⟨fun h => ⟨(goE _ E hg).1 h, fun _ _ => trivial⟩, fun h => ⟨(goE _ E hg).2 h, fun _ _ => trivial⟩⟩⟩; simp only [List.cons.injEq, U.s.injEq, U.i.injEq, and_true] at ho; obtain ⟨q1, q2, q3⟩ := ho; rw [q1, q2, q3]; exact ⟨fun h => ⟨(goG _ E hg).1 h, fun _ _ => trivial⟩, fun h => ⟨(goG _ E hg).2 h, fun _ _ => trivial⟩⟩
  ·have E := e1n hz; refine ⟨fun hg x => ⟨fun _ _ => trivial, fun b4 a4 e4 ho => ?_⟩, fun hg => ⟨fun h => ⟨(goE _ E hg).1 h, fun _ _ => trivial⟩, fun h => ⟨(goE _ E hg).2 h, fun _ _ => trivial⟩⟩⟩; simp only [List.cons.injEq, U.s.injEq, U.i.injEq, and_true] at ho; obtain ⟨q1, q2, q3⟩ := ho; rw [q1, q2, q3]; exact ⟨fun h => ⟨(goG _ E hg).1 h, fun _ _ => trivial⟩, fun h => ⟨(goG _ E hg).2 h, fun _ _ => trivial⟩⟩
  ·have E := e1s hs; refine ⟨fun hg x => ⟨fun _ _ => trivial, fun b4 a4 e4 ho => ?_⟩, fun hg => ⟨fun h => ⟨(goE _ E hg).1 h, fun _ _ => trivial⟩, fun h => ⟨(goE _ E hg).2 h, fun _ _ => trivial⟩⟩⟩; simp only [List.cons.injEq, U.s.injEq, U.i.injEq, and_true] at ho; obtain ⟨q1, q2, q3⟩ := ho; rw [q1, q2, q3]; exact ⟨fun h => ⟨(goG _ E hg).1 h, fun _ _ => trivial⟩, fun h => ⟨(goG _ E hg).2 h, fun _ _ => trivial⟩⟩
def rdS {α : Type} (mk : α → List U) (p : ByteArray → Got α) (lim : α → Prop) : Ctr where
 pre us _ := match us with
  | [.p _, .s b, .i a, .i _] => okR b a
  | _ => False
 post us os := match us with
  | [.p _, .s b, .i a, .i e] => ∃ v a' e', os = mk v ++ [.s b, .i a', .i e'] ∧ okR b a' ∧ Reads (Rel b a e) p (Rel b a' e') v ∧ lim v
  | _ => False
 fact _ _ _ := True
def limN (n : Int) : Prop := 0 ≤ n ∧ n ≤ 1099511627775
def limD (n : Int) : Prop := 0 ≤ n ∧ n < 18446744073709551616
def RNumS : Ctr := rdS (fun n => [.i n]) pNum limN
def RDigS : Ctr := rdS (fun n => [.i n]) pDig limD
def RFlagS : Ctr := rdS (fun b => [.b b]) pFlag fun _ => True
def cfg_rnum : Cfg := { con := [(147, 0)], lents := [(147, [(0, 122)])], mine := [(0, 122)] }
def vcd_rnum : { v : VC // vcOf Tryz.prog cfg_rnum 67 = v } := by refine ⟨?v, ?h⟩; rotate_left; conv => lhs; reduce
theorem vce_rnum : vcOf Tryz.prog cfg_rnum 67 = vcd_rnum.1 := vcd_rnum.2
theorem rnum_ok : KeepsL Tryz.prog 67 RNumS cfg_rnum.mine := by
 refine keepsL_v Tryz.func67 cfg_rnum vce_rnum [.p, .s, .i, .i] RNumS [(147, RUpToS)] ⟨rupto_ok, trivial⟩ (by kernel_rfl) (fun _ _ _ h => h) ?_; intro x0 b a e w hp; refine ⟨[], vc_use ?Q ?h ?g⟩
 case h => intro O C s I b; conv => lhs; reduce
 dsimp only [std]; simp only [ctrOf, invOf, List.lookup, Nat.reduceBEq, Option.getD_some, Int.reduceOfNat, Int.reduceNegSucc]; have ok0 : okR b a := hp; intro x5; refine ⟨fun _ _ => ⟨ok0, by decide⟩, fun n b1 a1 e1 ⟨n1, a1', e1', ho, ok1, W1, lo, hi⟩ => ?_⟩; simp only [List.cons.injEq, U.s.injEq, U.i.injEq, and_true] at ho; obtain ⟨q1, q2, q3, q4⟩ := ho; rw [q1, q2, q3, q4]; exact ⟨⟨n1, a1', e1', rfl, ok1, W1, lo, hi⟩, fun _ _ => trivial⟩
def rdigInv : Inv where
 inv us := match us with
  | [.i n, .i k, .s t] => t.size ≤ 8 ∧ 0 ≤ k ∧ k ≤ t.size ∧ n = numOf (t.data.toList.take k.toNat)
  | _ => False
 mea us := match us with
  | [.i _, .i k, .s t] => ((t.size : Int) - k).toNat
  | _ => 0
def cfg_rdig : Cfg := { con := [(243, 0)], loops := [(4, { slots := [4, 5], extra := [.var 5] })], lents := [(243, [(0, 122)])], mine := [(0, 122)] }
def vcd_rdig : { v : VC // vcOf Tryz.prog cfg_rdig 156 = v } := by refine ⟨?v, ?h⟩; rotate_left; conv => lhs; reduce
theorem vce_rdig : vcOf Tryz.prog cfg_rdig 156 = vcd_rdig.1 := vcd_rdig.2
theorem rdig_ok : KeepsL Tryz.prog 156 RDigS cfg_rdig.mine := by
 refine keepsL_v Tryz.func156 cfg_rdig vce_rdig [.p, .s, .i, .i] RDigS [(243, RTakeS)] ⟨rtake_ok, trivial⟩ (by kernel_rfl) (fun _ _ _ h => h) ?_; intro x0 b a e w hp; refine ⟨[(4, rdigInv)], vc_use ?Q ?h ?g⟩
 case h => intro O C s I b; conv => lhs; reduce
 dsimp only [std]; simp only [ctrOf, invOf, List.lookup, Nat.reduceBEq, Option.getD_some, Int.reduceOfNat, Int.reduceNegSucc]; have ok0 : okR b a := hp; intro x5; refine ⟨fun _ _ => ⟨ok0, by decide, by decide⟩, fun t b1 a1 e1 ⟨t1, a1', e1', ho, ok1, W1, sz, em⟩ => ?_⟩; simp only [List.cons.injEq, U.s.injEq, U.i.injEq, and_true] at ho; obtain ⟨rfl, rfl, rfl, rfl⟩ := ho; refine ⟨⟨by omega, by decide, by omega, rfl⟩, fun _ _ => trivial, fun n j ⟨v1, v2, v3, v4⟩ => ⟨fun hlt => ?_, fun hge => ?_⟩⟩
 ·have hl := size_list t; have hnx : IntKind.wrap .u64 ((IntKind.wrap .u64 (n * 256)) + (IntKind.wrap .u64 (t.data.toList.getD j.toNat 0).toNat)) = (numOf (t.data.toList.take (j + 1).toNat) : Int) := by
   have hbk : (t.data.toList.getD j.toNat 0).toNat < 256 := byte_lt t j.toNat; have hnl := numOf_lt _ (t.data.toList.take j.toNat) rfl; have hk : (t.data.toList.take j.toNat).length ≤ 7 := by rw [List.length_take]; omega
   have hnl2 : numOf (t.data.toList.take j.toNat) < 72057594037927936 := Nat.lt_of_lt_of_le hnl (Nat.le_trans (Nat.pow_le_pow_right (by decide) hk) (by decide)); have nx : numOf (t.data.toList.take (j + 1).toNat) = numOf (t.data.toList.take j.toNat) * 256 + (t.data.toList.getD j.toNat 0).toNat := by
    rw [show (j + 1).toNat = j.toNat + 1 by omega, numOf_take (by omega)]
   have w1 : IntKind.wrap .u64 ((numOf (t.data.toList.take j.toNat) : Int) * 256) = (numOf (t.data.toList.take j.toNat) : Int) * 256 := IntWalk.u64_in _ (by omega); have w2 : IntKind.wrap .u64 ((t.data.toList.getD j.toNat 0).toNat : Int) = ((t.data.toList.getD j.toNat 0).toNat : Int) := IntWalk.u64_in _ (by omega); rw [nx, v4, w1, w2, IntWalk.u64_in _ (by omega)]; omega
  rw [hnx]; exact ⟨v2, ⟨by omega, by omega⟩, ⟨v1, by omega, by omega, rfl⟩, fun _ _ => trivial, by show ((t.size : Int) - (j + 1)).toNat < ((t.size : Int) - j).toNat; omega, trivial⟩
 ·have hl := size_list t; have hall : t.data.toList.take j.toNat = t.data.toList := List.take_of_length_le (by omega); rw [hall] at v4; have hnl := numOf_lt _ t.data.toList rfl; have hnl2 : numOf t.data.toList < 18446744073709551616 := Nat.lt_of_lt_of_le hnl (Nat.le_trans (Nat.pow_le_pow_right (by decide) (show t.data.toList.length ≤ 8 by omega)) (by decide)); refine ⟨⟨n, a1, e1, rfl, ok1, ?_, by omega, by omega⟩, fun _ _ => trivial⟩; unfold Reads at W1 ⊢
  rw [v4]; generalize Rel b1 a e = q at W1 ⊢
  generalize Rel b1 a1 e1 = q' at W1 ⊢
  rcases q with c | s <;> rcases q' with c' | s' <;> simp only [Except.bind, Except.map] at W1 ⊢
  ·cases W1; rfl
  ·cases W1
  ·unfold pDig; rw [W1]; rfl
  ·unfold pDig; rw [W1]; rfl
def flag1 (k s : ByteArray) : Got Bool := if byteAt k 0 = 0 then .ok (false, s) else if byteAt k 0 = 1 then .ok (true, s) else .error 2
theorem pFlag_eq : pFlag = pBind (pTake 1) flag1 := by
 funext s; unfold pFlag pBind flag1; cases pTake 1 s <;> rfl
def cfg_rflag : Cfg := { con := [(243, 0), (244, 0)], lents := [(243, [(0, 122)]), (244, [(0, 122)])], mine := [(0, 122)] }
def vcd_rflag : { v : VC // vcOf Tryz.prog cfg_rflag 155 = v } := by refine ⟨?v, ?h⟩; rotate_left; conv => lhs; reduce
theorem vce_rflag : vcOf Tryz.prog cfg_rflag 155 = vcd_rflag.1 := vcd_rflag.2
theorem rflag_ok : KeepsL Tryz.prog 155 RFlagS cfg_rflag.mine := by
 refine keepsL_v Tryz.func155 cfg_rflag vce_rflag [.p, .s, .i, .i] RFlagS [(243, RTakeS), (244, RBadS)] ⟨rtake_ok, rbad_ok, trivial⟩ (by kernel_rfl) (fun _ _ _ h => h) ?_; intro x0 b a e w hp; refine ⟨[], vc_use ?Q ?h ?g⟩
 case h => intro O C s I b; conv => lhs; reduce
 dsimp only [std]; simp only [ctrOf, invOf, List.lookup, Nat.reduceBEq, Option.getD_some, Int.reduceOfNat, Int.reduceNegSucc]; have ok0 : okR b a := hp; intro x5; refine ⟨fun _ _ => ⟨ok0, by decide, by decide⟩, fun t b1 a1 e1 ⟨t1, a1', e1', ho, ok1, W1, sz, em⟩ => ?_⟩; simp only [List.cons.injEq, U.s.injEq, U.i.injEq, and_true] at ho; obtain ⟨rfl, rfl, rfl, rfl⟩ := ho; have B1 : (Rel b1 a e).bind pFlag = (Rel b1 a1 e1).bind (flag1 t) := by rw [pFlag_eq]; exact bind_step W1
 have fin : ∀ v e', (Rel b1 a e).bind pFlag = (Rel b1 a1 e').map (fun s => (v, s)) → RFlagS.post [.p x0, .s b1, .i a, .i e] [.b v, .s b1, .i a1, .i e'] ∧ ∀ (w : World) (A : Prop), A → RFlagS.fact [.p x0, .s b1, .i a, .i e] [.b v, .s b1, .i a1, .i e'] w := fun v e' h => ⟨⟨v, a1, e', rfl, ok1, h, trivial⟩, fun _ _ _ => trivial⟩
 refine ⟨fun h => ?_, fun h => ?_⟩
 ·obtain ⟨f1, f2⟩ := fin false e1 (B1.trans (by rw [err_reads h, Rel.bad h]; rfl)); exact ⟨f1, fun w hw => f2 w _ hw⟩
 subst h; have z1 := take_size W1 (Rel.zero rfl) (by decide); have hb : byteAt t 0 = (t.data.toList.getD 0 0).toNat := rfl; rw [Rel.zero rfl] at B1; simp only [RBadS, rbadO]; refine ⟨by omega, fun h5 => ?_, fun h5 => ?_⟩
 ·refine fun x10 => ⟨fun _ _ => trivial, fun b2 a2 e2 ho => ?_⟩
  simp only [if_true, List.cons.injEq, U.s.injEq, U.i.injEq, and_true] at ho; obtain ⟨q1, q2, q3⟩ := ho; rw [q1, q2, q3]; have hv : (((t.data.toList.getD 0 0).toNat : Int) == 1) = false := by simp only [beq_eq_false_iff_ne]; omega
  obtain ⟨f1, f2⟩ := fin (((t.data.toList.getD 0 0).toNat : Int) == 1) 2 (B1.trans (by show flag1 t _ = _; unfold flag1; rw [if_neg (by omega), if_neg (by omega), Rel.bad (by decide)]; rfl)); exact ⟨f1, fun w hw => f2 w _ hw⟩
 ·obtain ⟨f1, f2⟩ := fin (((t.data.toList.getD 0 0).toNat : Int) == 1) 0 (B1.trans (by
   show flag1 t _ = _; unfold flag1; rw [Rel.zero rfl]
   by_cases h0 : byteAt t 0 = 0
   ·rw [if_pos h0]; have hv : (((t.data.toList.getD 0 0).toNat : Int) == 1) = false := by simp only [beq_eq_false_iff_ne]; omega
    rw [hv]; rfl
   ·rw [if_neg h0, if_pos (by omega)]; have hv : (((t.data.toList.getD 0 0).toNat : Int) == 1) = true := by simp only [beq_iff_eq]; omega
    rw [hv]; rfl))
  exact ⟨f1, fun w hw => f2 w _ hw⟩
def RTextS : Ctr where
 pre us _ := match us with
  | [.p _, .i n, .s b, .i a, .i _] => okR b a ∧ 0 ≤ n ∧ n ≤ 1000000
  | _ => False
 post us os := match us with
  | [.p _, .i m, .s b, .i a, .i e] => ∃ t a' e', os = [.s t, .s b, .i a', .i e'] ∧ okR b a' ∧ Reads (Rel b a e) (pText m) (Rel b a' e') t ∧ (t.size : Int) ≤ m
  | _ => False
 fact _ _ _ := True
def cfg_rtext : Cfg := { con := [(147, 0), (243, 0)], lents := [(147, [(0, 122)]), (243, [(0, 122)])], mine := [(0, 122)] }
def vcd_rtext : { v : VC // vcOf Tryz.prog cfg_rtext 177 = v } := by refine ⟨?v, ?h⟩; rotate_left; conv => lhs; reduce
theorem vce_rtext : vcOf Tryz.prog cfg_rtext 177 = vcd_rtext.1 := vcd_rtext.2
theorem rtext_ok : KeepsL Tryz.prog 177 RTextS cfg_rtext.mine := by
 refine keepsL_v Tryz.func177 cfg_rtext vce_rtext [.p, .i, .s, .i, .i] RTextS [(147, RUpToS), (243, RTakeS)] ⟨rupto_ok, rtake_ok, trivial⟩ (by kernel_rfl) (fun _ _ _ h => h) ?_; intro x0 m b a e w hp; refine ⟨[], vc_use ?Q ?h ?g⟩
 case h => intro O C s I b; conv => lhs; reduce
 dsimp only [std]; simp only [ctrOf, invOf, List.lookup, Nat.reduceBEq, Option.getD_some, Int.reduceOfNat, Int.reduceNegSucc]; obtain ⟨ok0, hm0, hm1⟩ : okR b a ∧ 0 ≤ m ∧ m ≤ 1000000 := hp; intro x5; refine ⟨fun _ _ => ⟨ok0, hm0⟩, fun n b1 a1 e1 ⟨n1, a1', e1', ho, ok1, W1, lo, hi⟩ => ?_⟩; simp only [List.cons.injEq, U.s.injEq, U.i.injEq, and_true] at ho; obtain ⟨rfl, rfl, rfl, rfl⟩ := ho; intro x6; refine ⟨fun _ _ => ⟨ok1, lo, by omega⟩, fun t b2 a2 e2 ⟨t2, a2', e2', ho, ok2, W2, sz, em⟩ => ?_⟩; simp only [List.cons.injEq, U.s.injEq, U.i.injEq, and_true] at ho; obtain ⟨rfl, rfl, rfl, rfl⟩ := ho; refine ⟨⟨_, _, _, rfl, ok2, ?_, by omega⟩, fun _ _ => trivial⟩; unfold Reads at W2 ⊢
 exact (bind_step W1).trans W2
end Go.Proofs.YtjhaafbbdgjagaaGreat
