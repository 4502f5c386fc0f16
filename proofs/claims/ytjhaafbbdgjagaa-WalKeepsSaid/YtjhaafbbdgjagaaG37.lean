/- Of the texts Gp4, Gp5, Gr1, Gr2, Gr3, Gr4, Gr5, St0, St1. -/
import Derived.Test.YtjhaafbbdgjagaaProg
import Derived.Test.YtjhaafbbdgjagaaG36
set_option linter.unusedSimpArgs false
set_option linter.unusedVariables false
namespace Go.Proofs.Ytjhaafbbdgjagaa
open Go.RowKit Vc
set_option maxRecDepth 100000
def pTx : ByteArray → Got TxD := pBind pNum fun k => pBind pNum fun f => pBind pNum fun n => pBind pNum fun p => pBind pNum fun l => pBind pNum fun t => pBind pNum fun a => pBind (pText 2048) fun text => pBind (pList 8 pNum) fun args => pBind (pList 1 pSight) fun sights => pBind (pList 1 pProof) fun proofs => fun z => .ok (⟨k, f, n, p, l, t, a, text.data.toList, args, none, 0, sights, none, 0, proofs, none, 0⟩, z)
theorem good_tx : Good pTx := by unfold pTx; exact good_bind good_num fun _ => good_bind good_num fun _ => good_bind good_num fun _ => good_bind good_num fun _ => good_bind good_num fun _ => good_bind good_num fun _ => good_bind good_num fun _ => good_bind (good_text _) fun _ => good_bind (good_list _ good_num) fun _ => good_bind (good_list _ good_sight) fun _ => good_bind (good_list _ good_proof) fun _ => good_ok _
def txR : Rdr TxD := { us := fun x => [.i x.k, .i x.f, .i x.n, .i x.p, .i x.l, .i x.t, .i x.a, .s (bs x.text), .p x.aa, .n x.args.length, .n x.ac, .p x.sa, .n x.sights.length, .n x.sc, .p x.pa, .n x.proofs.length, .n x.pc], cells := fun x => x.cells, strip := fun x => { x with aa := none, ac := 0, sights := x.sights.map sightR.strip, sa := none, sc := 0, proofs := x.proofs.map proofR.strip, pa := none, pc := 0 }, held := fun w x => x.held w w.heap.size, p := pTx }
def cfg_ptx : Cfg := { con := [(33, 0), (69, 0), (62, 0), (70, 0), (72, 0)], lents := [(33, [(0, 94)]), (69, [(0, 94)]), (62, [(0, 94)]), (70, [(0, 94)]), (72, [(0, 94)])], mine := [(0, 94)], pans := [33, 69, 62, 70, 72], unroll := [(2, 8)] }
def vcd_ptx : { v : VC // vcOf Try.prog cfg_ptx 59 = v } := by refine ⟨?v, ?h⟩; rotate_left; conv => lhs; reduce
theorem vce_ptx : vcOf Try.prog cfg_ptx 59 = vcd_ptx.1 := vcd_ptx.2
set_option linter.unusedVariables false in
theorem ptx_ok : KeepsL Try.prog 59 (elemC txR) cfg_ptx.mine := by
 refine keepsL_v Try.func59 cfg_ptx vce_ptx [.p, .s] (elemC txR) [(33, PNumS), (69, PTextS), (62, (listC numR 33 1)), (70, (listC sightR 71 16)), (72, (listC proofR 73 4))] ⟨pnum_ok, ptext_ok, getsnum_ok, getssight_ok, getsproof_ok, trivial⟩ (by kernel_rfl) (fun _ _ _ h => h) ?_; intro x0 s0 w hp; refine ⟨[], vc_use ?Q ?h ?g⟩
 case h => intro O C s I b; conv => lhs; reduce
 dsimp only [std]; simp only [ctrOf, invOf, List.lookup, Nat.reduceBEq, Option.getD_some, Int.reduceOfNat, Int.reduceNegSucc]; have hs0 : Small s0 := hp; have bad : ∀ e, pTx s0 = .error e → (elemC txR).pan [.p x0, .s s0] (stopCh e) := fun e h => ⟨e, h, rfl⟩
 simp only [rdC, PNumS, numF, PTextS, rtextF]; intro a_k; refine ⟨fun ch ⟨e, g, hc⟩ => hc ▸ bad e (by simp only [pTx, pBind, gI_err g]), fun _ _ => hs0, fun k s1 g_k => ?_⟩; replace g_k := gI_ok g_k; have hs1 : Small s1 := good_num _ _ _ g_k hs0; refine ⟨⟨by decide, by decide⟩, ?_⟩; intro a_f; refine ⟨fun ch ⟨e, g, hc⟩ => hc ▸ bad e (by simp only [pTx, pBind, g_k, gI_err g]), fun _ _ => hs1, fun f s2 g_f => ?_⟩; replace g_f := gI_ok g_f; have hs2 : Small s2 := good_num _ _ _ g_f hs1; refine ⟨⟨by decide, by decide⟩, ?_⟩; intro a_n; refine ⟨fun ch ⟨e, g, hc⟩ => hc ▸ bad e (by simp only [pTx, pBind, g_k, g_f, gI_err g]), fun _ _ => hs2, fun n s3 g_n => ?_⟩; replace g_n := gI_ok g_n; have hs3 : Small s3 := good_num _ _ _ g_n hs2; refine ⟨⟨by decide, by decide⟩, ?_⟩; intro a_p; refine ⟨fun ch ⟨e, g, hc⟩ => hc ▸ bad e (by simp only [pTx, pBind, g_k, g_f, g_n, gI_err g]), fun _ _ => hs3, fun p s4 g_p => ?_⟩; replace g_p := gI_ok g_p; have hs4 : Small s4 := good_num _ _ _ g_p hs3; refine ⟨⟨by decide, by decide⟩, ?_⟩; intro a_l; refine ⟨fun ch ⟨e, g, hc⟩ => hc ▸ bad e (by simp only [pTx, pBind, g_k, g_f, g_n, g_p, gI_err g]), fun _ _ => hs4, fun l s5 g_l => ?_⟩; replace g_l := gI_ok g_l; have hs5 : Small s5 := good_num _ _ _ g_l hs4; refine ⟨⟨by decide, by decide⟩, ?_⟩; intro a_t; refine ⟨fun ch ⟨e, g, hc⟩ => hc ▸ bad e (by simp only [pTx, pBind, g_k, g_f, g_n, g_p, g_l, gI_err g]), fun _ _ => hs5, fun t s6 g_t => ?_⟩; replace g_t := gI_ok g_t; have hs6 : Small s6 := good_num _ _ _ g_t hs5; refine ⟨⟨by decide, by decide⟩, ?_⟩; intro a_a; refine ⟨fun ch ⟨e, g, hc⟩ => hc ▸ bad e (by simp only [pTx, pBind, g_k, g_f, g_n, g_p, g_l, g_t, gI_err g]), fun _ _ => hs6, fun a s7 g_a => ?_⟩; replace g_a := gI_ok g_a; have hs7 : Small s7 := good_num _ _ _ g_a hs6; refine ⟨⟨by decide, by decide⟩, ?_⟩; intro a_text; refine ⟨fun ch ⟨e, g, hc⟩ => hc ▸ bad e (by simp only [pTx, pBind, g_k, g_f, g_n, g_p, g_l, g_t, g_a, gS_err g]), fun _ _ => ⟨hs7, by decide⟩, fun t_text s8 g_text => ?_⟩
 replace g_text := gS_ok g_text; have hs8 : Small s8 := good_text _ _ _ _ g_text hs7; intro a_args; refine ⟨fun ch ⟨e, g, hc⟩ => hc ▸ bad e (by simp only [pTx, pBind, g_k, g_f, g_n, g_p, g_l, g_t, g_a, g_text, show pList 8 pNum s8 = _ from g]), fun _ _ => ⟨hs8, rfl, by decide⟩, fun a1_args n_args c1_args s9 ⟨y_args, g_args, _⟩ => ?_⟩; replace g_args : pList 8 pNum s8 = .ok (y_args, s9) := g_args; have hs9 : Small s9 := good_list _ good_num _ _ _ g_args hs8; intro a_sights; refine ⟨fun ch ⟨e, g, hc⟩ => hc ▸ bad e (by simp only [pTx, pBind, g_k, g_f, g_n, g_p, g_l, g_t, g_a, g_text, g_args, show pList 1 pSight s9 = _ from g]), fun _ _ => ⟨hs9, rfl, by decide⟩, fun a1_sights n_sights c1_sights s10 ⟨y_sights, g_sights, _⟩ => ?_⟩; replace g_sights : pList 1 pSight s9 = .ok (y_sights, s10) := g_sights; have hs10 : Small s10 := good_list _ good_sight _ _ _ g_sights hs9; intro a_proofs; refine ⟨fun ch ⟨e, g, hc⟩ => hc ▸ bad e (by simp only [pTx, pBind, g_k, g_f, g_n, g_p, g_l, g_t, g_a, g_text, g_args, g_sights, show pList 1 pProof s10 = _ from g]), fun _ _ => ⟨hs10, rfl, by decide⟩, fun a1_proofs n_proofs c1_proofs s11 ⟨y_proofs, g_proofs, _⟩ => ?_⟩; replace g_proofs : pList 1 pProof s10 = .ok (y_proofs, s11) := g_proofs; have hs11 : Small s11 := good_list _ good_proof _ _ _ g_proofs hs10; refine ⟨⟨⟨k, f, n, p, l, t, a, t_text.data.toList, y_args, none, 0, y_sights, none, 0, y_proofs, none, 0⟩, s11, by simp only [txR, pTx, pBind, g_k, g_f, g_n, g_p, g_l, g_t, g_a, g_text, g_args, g_sights, g_proofs], rfl⟩, fun w hw => ?_⟩; obtain ⟨⟨⟨⟨⟨⟨⟨⟨⟨⟨⟨_, _⟩, _⟩, _⟩, _⟩, _⟩, _⟩, _⟩, _⟩, ⟨l_args, q_args, m_args, r_args, h_args⟩⟩, ⟨l_sights, q_sights, m_sights, r_sights, h_sights⟩⟩, ⟨l_proofs, q_proofs, m_proofs, r_proofs, h_proofs⟩⟩ := hw; subst m_args; replace q_args : pList 8 pNum _ = .ok (_, _) := q_args; subst m_sights; replace q_sights : pList 1 pSight _ = .ok (_, _) := q_sights; subst m_proofs; replace q_proofs : pList 1 pProof _ = .ok (_, _) := q_proofs
 have b_text := bs_back t_text; exact ⟨⟨k, f, n, p, l, t, a, t_text.data.toList, l_args, a1_args, c1_args, l_sights, a1_sights, c1_sights, l_proofs, a1_proofs, c1_proofs⟩, s11, by simp only [txR, b_text]; rfl, by simp only [txR, pTx, pBind, g_k, g_f, g_n, g_p, g_l, g_t, g_a, g_text, q_args, q_sights, q_proofs]; first | done | rfl | simp [numR, proofR, sightR], ⟨ints_of r_args, r_sights, r_proofs, ⟨short_of q_args, short_of q_sights, short_of q_proofs⟩, h_sights, h_proofs⟩⟩
def cfg_gtx : Cfg := { con := [(43, 0), (59, 0)], loops := [(4, { slots := [8, 13], blks := [0], rows := [8], extra := [.var 5, .var 6] })], rows := [(8, 117)], lents := [(43, [(0, 94)]), (59, [(0, 94)])], mine := [(0, 94)], pans := [43, 59], fns := [(18, 59)] }
def vcd_gtx : { v : VC // vcOf Try.prog cfg_gtx 58 = v } := by refine ⟨?v, ?h⟩; rotate_left; conv => lhs; reduce
theorem vce_gtx : vcOf Try.prog cfg_gtx 58 = vcd_gtx.1 := vcd_gtx.2
theorem getstx_ok : KeepsL Try.prog 58 (listC txR 59 11) cfg_gtx.mine := by
 refine keepsL_v Try.func58 cfg_gtx vce_gtx [.p, .i, .v, .s] (listC txR 59 11) [(43, PUpToS), (59, elemC txR)] ⟨pupto_ok, ptx_ok, trivial⟩ (by kernel_rfl) (fun _ _ _ h => h) ?_; intro x0 x1 x2 x3 w hp; refine ⟨[(4, listInv txR)], vc_use ?Q ?h ?g⟩
 case h => intro O C s I b; conv => lhs; reduce
 dsimp only [std]; simp only [ctrOf, invOf, List.lookup, Nat.reduceBEq, Option.getD_some, Int.reduceOfNat, Int.reduceNegSucc]; obtain ⟨hs, rfl, hm⟩ : Small x3 ∧ x2 = .func (.func 59) #[] #[] ∧ x1 ≤ 1000000 := hp; simp only [PUpToS, rdC, upToF]; intro x4; refine ⟨fun ch ⟨e, h1, h2⟩ => h2 ▸ list_pan1 (gI_err h1) _, fun _ _ => hs, fun x5 x6 h1 => ?_⟩; have h1 := gI_ok h1; obtain ⟨i1, i2⟩ := list_init (R := txR) h1 hs hm; refine ⟨i1, fun w _ => i2 w, fun m xs k sk hi => ⟨fun hk => ⟨trivial, fun a => ⟨fun ch ⟨e, g1, g2⟩ => g2 ▸ list_pan2 h1 hi hk g1 _, fun _ _ => hi.2.2.2.2.1, fun l0 l1 l2 l3 l4 l5 l6 l7 l8 l9 l10 l11 l12 l13 l14 l15 l16 s' ⟨y, z, g, gl⟩ => ?_⟩⟩, fun hk A c => ?_⟩⟩
 ·obtain rfl : s' = z := by simpa using gl
  obtain ⟨n1, n2, n3, n4, n5⟩ := list_next (R := txR) hi hk g (good_tx _ _ _ g hi.2.2.2.2.1) 144 (by decide) _; refine ⟨n1, n2, n3, n4, fun w ⟨⟨_, f⟩, ⟨x, z, e1, e2, e3⟩⟩ => ?_, n5 _, trivial⟩; cases e1; obtain ⟨l, q1, q2, q3⟩ := list_step (R := txR) hi.1 f e2 e3; exact ⟨l, q1, (show xs ++ _ = _ from by rw [← q2]; exact congrArg (xs ++ ·) (by kernel_rfl)), q3⟩
 ·obtain ⟨f1, f2⟩ := list_fin (R := txR) (A := A) (c := c) (a := x0) (fg := 59) (size := 11) h1 hi hk (.func (.func 59) #[] #[]); exact ⟨f1, fun w ⟨⟨_, f⟩, o⟩ => f2 f o⟩
def pBlock : ByteArray → Got BlockD := pBind pHeader fun header => pBind (pList 16 pTx) fun txs => pBind (pList 4 pGuilt) fun guilts => fun z => .ok (⟨header, txs, none, 0, guilts, none, 0⟩, z)
theorem good_block : Good pBlock := by unfold pBlock; exact good_bind good_header fun _ => good_bind (good_list _ good_tx) fun _ => good_bind (good_list _ good_guilt) fun _ => good_ok _
def blockR : Rdr BlockD := { us := fun x => [.i x.header.c, .i x.header.h, .i x.header.p, .i x.header.t, .i x.header.g, .i x.header.s, .i x.header.r, .i x.header.b, .i x.header.o, .p x.ta, .n x.txs.length, .n x.tc, .p x.ga, .n x.guilts.length, .n x.gc], cells := fun x => x.cells, strip := fun x => { x with txs := x.txs.map txR.strip, ta := none, tc := 0, ga := none, gc := 0 }, held := fun w x => x.held w w.heap.size, p := pBlock }
def cfg_pblock : Cfg := { con := [(57, 0), (58, 0), (60, 0)], lents := [(57, [(0, 94)]), (58, [(0, 94)]), (60, [(0, 94)])], mine := [(0, 94)], pans := [57, 58, 60] }
def vcd_pblock : { v : VC // vcOf Try.prog cfg_pblock 46 = v } := by refine ⟨?v, ?h⟩; rotate_left; conv => lhs; reduce
theorem vce_pblock : vcOf Try.prog cfg_pblock 46 = vcd_pblock.1 := vcd_pblock.2
set_option linter.unusedVariables false in
theorem pblock_ok : KeepsL Try.prog 46 (elemC blockR) cfg_pblock.mine := by
 refine keepsL_v Try.func46 cfg_pblock vce_pblock [.p, .s] (elemC blockR) [(57, (elemC headerR)), (58, (listC txR 59 11)), (60, (listC guiltR 61 12))] ⟨pheader_ok, getstx_ok, getsguilt_ok, trivial⟩ (by kernel_rfl) (fun _ _ _ h => h) ?_; intro x0 s0 w hp; refine ⟨[], vc_use ?Q ?h ?g⟩
 case h => intro O C s I b; conv => lhs; reduce
 dsimp only [std]; simp only [ctrOf, invOf, List.lookup, Nat.reduceBEq, Option.getD_some, Int.reduceOfNat, Int.reduceNegSucc]; have hs0 : Small s0 := hp; have bad : ∀ e, pBlock s0 = .error e → (elemC blockR).pan [.p x0, .s s0] (stopCh e) := fun e h => ⟨e, h, rfl⟩
 intro a_header; refine ⟨fun ch ⟨e, g, hc⟩ => hc ▸ bad e (by simp only [pBlock, pBind, show pHeader s0 = _ from g]), fun _ _ => hs0, fun l_header_0 l_header_1 l_header_2 l_header_3 l_header_4 l_header_5 l_header_6 l_header_7 l_header_8 s1 ⟨y_header, z_header, g_header, gl⟩ => ?_⟩; obtain rfl : s1 = z_header := by simpa using gl
 replace g_header : pHeader s0 = .ok (y_header, s1) := g_header; have hs1 : Small s1 := good_header _ _ _ g_header hs0; intro a_txs; refine ⟨fun ch ⟨e, g, hc⟩ => hc ▸ bad e (by simp only [pBlock, pBind, g_header, show pList 16 pTx s1 = _ from g]), fun _ _ => ⟨hs1, rfl, by decide⟩, fun a1_txs n_txs c1_txs s2 ⟨y_txs, g_txs, _⟩ => ?_⟩; replace g_txs : pList 16 pTx s1 = .ok (y_txs, s2) := g_txs; have hs2 : Small s2 := good_list _ good_tx _ _ _ g_txs hs1; intro a_guilts; refine ⟨fun ch ⟨e, g, hc⟩ => hc ▸ bad e (by simp only [pBlock, pBind, g_header, g_txs, show pList 4 pGuilt s2 = _ from g]), fun _ _ => ⟨hs2, rfl, by decide⟩, fun a1_guilts n_guilts c1_guilts s3 ⟨y_guilts, g_guilts, _⟩ => ?_⟩; replace g_guilts : pList 4 pGuilt s2 = .ok (y_guilts, s3) := g_guilts; have hs3 : Small s3 := good_list _ good_guilt _ _ _ g_guilts hs2; refine ⟨⟨⟨y_header, y_txs, none, 0, y_guilts, none, 0⟩, s3, by simp only [blockR, pBlock, pBind, g_header, g_txs, g_guilts], rfl⟩, fun w hw => ?_⟩; obtain ⟨⟨⟨_, ⟨x_header, w_header, e_header, p_header, h_header⟩⟩, ⟨l_txs, q_txs, m_txs, r_txs, h_txs⟩⟩, ⟨l_guilts, q_guilts, m_guilts, r_guilts, h_guilts⟩⟩ := hw; cases e_header; replace p_header : pHeader _ = .ok (_, _) := p_header; subst m_txs; replace q_txs : pList 16 pTx _ = .ok (_, _) := q_txs; subst m_guilts; replace q_guilts : pList 4 pGuilt _ = .ok (_, _) := q_guilts; exact ⟨⟨x_header, l_txs, a1_txs, c1_txs, l_guilts, a1_guilts, c1_guilts⟩, s3, rfl, by simp only [blockR, pBlock, pBind, p_header, q_txs, q_guilts]; first | done | rfl | simp [guiltR, headerR, txR], ⟨h_header, r_txs, r_guilts, ⟨short_of q_txs, short_of q_guilts⟩, h_txs, h_guilts⟩⟩
def pMotion : ByteArray → Got MotionD := pBind pNum fun r => pBind pNum fun f => pBind pBlock fun block => pBind (pList 1 pCert) fun basis => fun z => .ok (⟨r, f, block, basis, none, 0⟩, z)
def motionR : Rdr MotionD := { us := fun x => [.i x.r, .i x.f, .i x.block.header.c, .i x.block.header.h, .i x.block.header.p, .i x.block.header.t, .i x.block.header.g, .i x.block.header.s, .i x.block.header.r, .i x.block.header.b, .i x.block.header.o, .p x.block.ta, .n x.block.txs.length, .n x.block.tc, .p x.block.ga, .n x.block.guilts.length, .n x.block.gc, .p x.ba, .n x.basis.length, .n x.bc], cells := fun x => x.cells, strip := fun x => { x with block := blockR.strip x.block, basis := x.basis.map certR.strip, ba := none, bc := 0 }, held := fun w x => x.held w w.heap.size, p := pMotion }
def cfg_pmotion : Cfg := { con := [(33, 0), (46, 0), (47, 0)], lents := [(33, [(0, 94)]), (46, [(0, 94)]), (47, [(0, 94)])], mine := [(0, 94)], pans := [33, 46, 47] }
def vcd_pmotion : { v : VC // vcOf Try.prog cfg_pmotion 35 = v } := by refine ⟨?v, ?h⟩; rotate_left; conv => lhs; reduce
theorem vce_pmotion : vcOf Try.prog cfg_pmotion 35 = vcd_pmotion.1 := vcd_pmotion.2
set_option linter.unusedVariables false in
theorem pmotion_ok : KeepsL Try.prog 35 (elemC motionR) cfg_pmotion.mine := by
 refine keepsL_v Try.func35 cfg_pmotion vce_pmotion [.p, .s] (elemC motionR) [(33, PNumS), (46, (elemC blockR)), (47, (listC certR 48 6))] ⟨pnum_ok, pblock_ok, getscert_ok, trivial⟩ (by kernel_rfl) (fun _ _ _ h => h) ?_; intro x0 s0 w hp; refine ⟨[], vc_use ?Q ?h ?g⟩
 case h => intro O C s I b; conv => lhs; reduce
 dsimp only [std]; simp only [ctrOf, invOf, List.lookup, Nat.reduceBEq, Option.getD_some, Int.reduceOfNat, Int.reduceNegSucc]; have hs0 : Small s0 := hp; have bad : ∀ e, pMotion s0 = .error e → (elemC motionR).pan [.p x0, .s s0] (stopCh e) := fun e h => ⟨e, h, rfl⟩
 simp only [rdC, PNumS, numF]; intro a_r; refine ⟨fun ch ⟨e, g, hc⟩ => hc ▸ bad e (by simp only [pMotion, pBind, gI_err g]), fun _ _ => hs0, fun r s1 g_r => ?_⟩; replace g_r := gI_ok g_r; have hs1 : Small s1 := good_num _ _ _ g_r hs0; intro a_f; refine ⟨fun ch ⟨e, g, hc⟩ => hc ▸ bad e (by simp only [pMotion, pBind, g_r, gI_err g]), fun _ _ => hs1, fun f s2 g_f => ?_⟩; replace g_f := gI_ok g_f; have hs2 : Small s2 := good_num _ _ _ g_f hs1; intro a_block; refine ⟨fun ch ⟨e, g, hc⟩ => hc ▸ bad e (by simp only [pMotion, pBind, g_r, g_f, show pBlock s2 = _ from g]), fun _ _ => hs2, fun l_block_0 l_block_1 l_block_2 l_block_3 l_block_4 l_block_5 l_block_6 l_block_7 l_block_8 l_block_9 l_block_10 l_block_11 l_block_12 l_block_13 l_block_14 s3 ⟨y_block, z_block, g_block, gl⟩ => ?_⟩; obtain rfl : s3 = z_block := by simpa using gl
 replace g_block : pBlock s2 = .ok (y_block, s3) := g_block; have hs3 : Small s3 := good_block _ _ _ g_block hs2; intro a_basis; refine ⟨fun ch ⟨e, g, hc⟩ => hc ▸ bad e (by simp only [pMotion, pBind, g_r, g_f, g_block, show pList 1 pCert s3 = _ from g]), fun _ _ => ⟨hs3, rfl, by decide⟩, fun a1_basis n_basis c1_basis s4 ⟨y_basis, g_basis, _⟩ => ?_⟩; replace g_basis : pList 1 pCert s3 = .ok (y_basis, s4) := g_basis; have hs4 : Small s4 := good_list _ good_cert _ _ _ g_basis hs3; refine ⟨⟨⟨r, f, y_block, y_basis, none, 0⟩, s4, by simp only [motionR, pMotion, pBind, g_r, g_f, g_block, g_basis], rfl⟩, fun w hw => ?_⟩; obtain ⟨⟨⟨⟨_, _⟩, _⟩, ⟨x_block, w_block, e_block, p_block, h_block⟩⟩, ⟨l_basis, q_basis, m_basis, r_basis, h_basis⟩⟩ := hw; cases e_block; replace p_block : pBlock _ = .ok (_, _) := p_block; subst m_basis; replace q_basis : pList 1 pCert _ = .ok (_, _) := q_basis; exact ⟨⟨r, f, x_block, l_basis, a1_basis, c1_basis⟩, s4, rfl, by simp only [motionR, pMotion, pBind, g_r, g_f, p_block, q_basis]; first | done | rfl | simp [blockR, certR], ⟨h_block, r_basis, short_of q_basis, h_basis⟩⟩
def pKnown : ByteArray → Got KnownD := pBind pCert fun cert => pBind pBlock fun block => fun z => .ok (⟨cert, block⟩, z)
def knownR : Rdr KnownD := { us := fun x => [.i x.cert.h, .i x.cert.r, .i x.cert.s, .b x.cert.has, .i x.cert.b, .p x.cert.fa, .n x.cert.froms.length, .n x.cert.fc, .i x.block.header.c, .i x.block.header.h, .i x.block.header.p, .i x.block.header.t, .i x.block.header.g, .i x.block.header.s, .i x.block.header.r, .i x.block.header.b, .i x.block.header.o, .p x.block.ta, .n x.block.txs.length, .n x.block.tc, .p x.block.ga, .n x.block.guilts.length, .n x.block.gc], cells := fun x => x.cells, strip := fun x => { x with cert := certR.strip x.cert, block := blockR.strip x.block }, held := fun w x => x.held w w.heap.size, p := pKnown }
def cfg_pknown : Cfg := { con := [(48, 0), (46, 0)], lents := [(48, [(0, 94)]), (46, [(0, 94)])], mine := [(0, 94)], pans := [48, 46] }
def vcd_pknown : { v : VC // vcOf Try.prog cfg_pknown 36 = v } := by refine ⟨?v, ?h⟩; rotate_left; conv => lhs; reduce
theorem vce_pknown : vcOf Try.prog cfg_pknown 36 = vcd_pknown.1 := vcd_pknown.2
set_option linter.unusedVariables false in
theorem pknown_ok : KeepsL Try.prog 36 (elemC knownR) cfg_pknown.mine := by
 refine keepsL_v Try.func36 cfg_pknown vce_pknown [.p, .s] (elemC knownR) [(48, (elemC certR)), (46, (elemC blockR))] ⟨pcert_ok, pblock_ok, trivial⟩ (by kernel_rfl) (fun _ _ _ h => h) ?_; intro x0 s0 w hp; refine ⟨[], vc_use ?Q ?h ?g⟩
 case h => intro O C s I b; conv => lhs; reduce
 dsimp only [std]; simp only [ctrOf, invOf, List.lookup, Nat.reduceBEq, Option.getD_some, Int.reduceOfNat, Int.reduceNegSucc]; have hs0 : Small s0 := hp; have bad : ∀ e, pKnown s0 = .error e → (elemC knownR).pan [.p x0, .s s0] (stopCh e) := fun e h => ⟨e, h, rfl⟩
 intro a_cert; refine ⟨fun ch ⟨e, g, hc⟩ => hc ▸ bad e (by simp only [pKnown, pBind, show pCert s0 = _ from g]), fun _ _ => hs0, fun l_cert_0 l_cert_1 l_cert_2 l_cert_3 l_cert_4 l_cert_5 l_cert_6 l_cert_7 s1 ⟨y_cert, z_cert, g_cert, gl⟩ => ?_⟩; obtain rfl : s1 = z_cert := by simpa using gl
 replace g_cert : pCert s0 = .ok (y_cert, s1) := g_cert; have hs1 : Small s1 := good_cert _ _ _ g_cert hs0; intro a_block; refine ⟨fun ch ⟨e, g, hc⟩ => hc ▸ bad e (by simp only [pKnown, pBind, g_cert, show pBlock s1 = _ from g]), fun _ _ => hs1, fun l_block_0 l_block_1 l_block_2 l_block_3 l_block_4 l_block_5 l_block_6 l_block_7 l_block_8 l_block_9 l_block_10 l_block_11 l_block_12 l_block_13 l_block_14 s2 ⟨y_block, z_block, g_block, gl⟩ => ?_⟩; obtain rfl : s2 = z_block := by simpa using gl
 replace g_block : pBlock s1 = .ok (y_block, s2) := g_block; have hs2 : Small s2 := good_block _ _ _ g_block hs1; refine ⟨⟨⟨y_cert, y_block⟩, s2, by simp only [knownR, pKnown, pBind, g_cert, g_block], rfl⟩, fun w hw => ?_⟩; obtain ⟨⟨_, ⟨x_cert, w_cert, e_cert, p_cert, h_cert⟩⟩, ⟨x_block, w_block, e_block, p_block, h_block⟩⟩ := hw; cases e_cert; replace p_cert : pCert _ = .ok (_, _) := p_cert; cases e_block; replace p_block : pBlock _ = .ok (_, _) := p_block; exact ⟨⟨x_cert, x_block⟩, s2, rfl, by simp only [knownR, pKnown, pBind, p_cert, p_block]; first | done | rfl | simp [blockR, certR], ⟨h_cert, h_block⟩⟩
def voteZ : VoteD := ⟨0, 0, 0, false, 0, 0⟩
def headerZ : HeaderD := ⟨0, 0, 0, 0, 0, 0, 0, 0, 0⟩
def blockZ : BlockD := ⟨headerZ, [], none, 0, [], none, 0⟩
def certZ : CertD := ⟨0, 0, 0, false, 0, [], none, 0⟩
def motionZ : MotionD := ⟨0, 0, blockZ, [], none, 0⟩
def knownZ : KnownD := ⟨certZ, blockZ⟩
theorem ml0 : (0 : Nat) ≤ maxLen := Nat.zero_le _
theorem voteZ_ok : voteZ.ok := by unfold VoteD.ok voteZ; decide
theorem headerZ_ok : headerZ.ok := by unfold HeaderD.ok headerZ; decide
theorem blockZ_held (w : World) (B : Nat) : blockZ.held w B := ⟨headerZ_ok, Rd.nil _ _ _ _, Rd.nil _ _ _ _, ⟨ml0, ml0⟩, fun _ h => (nomatch h), fun _ h => (nomatch h)⟩
theorem certZ_held (w : World) (B : Nat) : certZ.held w B := ⟨by unfold certZ; decide, Rd.nil _ _ _ _, ml0⟩
theorem motionZ_held (w : World) (B : Nat) : motionZ.held w B := ⟨blockZ_held w B, Rd.nil _ _ _ _, ml0, fun _ h => (nomatch h)⟩
theorem knownZ_held (w : World) (B : Nat) : knownZ.held w B := ⟨certZ_held w B, blockZ_held w B⟩
def pRecord : ByteArray → Got RecordD := pBind pNum fun k => if k = 1 then pBind pVote fun v => fun z => .ok (⟨k, v, motionZ, knownZ⟩, z) else if k = 2 then pBind pMotion fun m => fun z => .ok (⟨k, voteZ, m, knownZ⟩, z) else if k = 3 ∨ k = 4 then pBind pKnown fun n => fun z => .ok (⟨k, voteZ, motionZ, n⟩, z) else fun z => .ok (⟨k, voteZ, motionZ, knownZ⟩, z)
def recordR : Rdr RecordD := { us := fun x => [.i x.k, .i x.vote.h, .i x.vote.r, .i x.vote.s, .b x.vote.has, .i x.vote.b, .i x.vote.f, .i x.motion.r, .i x.motion.f, .i x.motion.block.header.c, .i x.motion.block.header.h, .i x.motion.block.header.p, .i x.motion.block.header.t, .i x.motion.block.header.g, .i x.motion.block.header.s, .i x.motion.block.header.r, .i x.motion.block.header.b, .i x.motion.block.header.o, .p x.motion.block.ta, .n x.motion.block.txs.length, .n x.motion.block.tc, .p x.motion.block.ga, .n x.motion.block.guilts.length, .n x.motion.block.gc, .p x.motion.ba, .n x.motion.basis.length, .n x.motion.bc, .i x.known.cert.h, .i x.known.cert.r, .i x.known.cert.s, .b x.known.cert.has, .i x.known.cert.b, .p x.known.cert.fa, .n x.known.cert.froms.length, .n x.known.cert.fc, .i x.known.block.header.c, .i x.known.block.header.h, .i x.known.block.header.p, .i x.known.block.header.t, .i x.known.block.header.g, .i x.known.block.header.s, .i x.known.block.header.r, .i x.known.block.header.b, .i x.known.block.header.o, .p x.known.block.ta, .n x.known.block.txs.length, .n x.known.block.tc, .p x.known.block.ga, .n x.known.block.guilts.length, .n x.known.block.gc], cells := fun x => x.cells, strip := fun x => { x with motion := motionR.strip x.motion, known := knownR.strip x.known }, held := fun w x => x.held w w.heap.size ∧ (x.k = 1 → x.motion = motionZ ∧ x.known = knownZ), p := pRecord }
def cfg_precord : Cfg := { con := [(33, 0), (34, 0), (35, 0), (36, 0)], lents := [(33, [(0, 94)]), (34, [(0, 94)]), (35, [(0, 94)]), (36, [(0, 94)])], mine := [(0, 94)], pans := [33, 34, 35, 36] }
def vcd_precord : { v : VC // vcOf Try.prog cfg_precord 22 = v } := by refine ⟨?v, ?h⟩; rotate_left; conv => lhs; reduce
theorem vce_precord : vcOf Try.prog cfg_precord 22 = vcd_precord.1 := vcd_precord.2
theorem precord_ok : KeepsL Try.prog 22 (elemC recordR) cfg_precord.mine := by
 refine keepsL_v Try.func22 cfg_precord vce_precord [.p, .s] (elemC recordR) [(33, PNumS), (34, (elemC voteR)), (35, (elemC motionR)), (36, (elemC knownR))] ⟨pnum_ok, pvote_ok, pmotion_ok, pknown_ok, trivial⟩ (by kernel_rfl) (fun _ _ _ h => h) ?_; intro x0 s0 w hp; refine ⟨[], vc_use ?Q ?h ?g⟩
 case h => intro O C s I b; conv => lhs; reduce
 dsimp only [std]; simp only [ctrOf, invOf, List.lookup, Nat.reduceBEq, Option.getD_some, Int.reduceOfNat, Int.reduceNegSucc]; have hs0 : Small s0 := hp; have bad : ∀ e, pRecord s0 = .error e → (elemC recordR).pan [.p x0, .s s0] (stopCh e) := fun e h => ⟨e, h, rfl⟩
 simp only [rdC, PNumS, numF]; intro a_k; refine ⟨fun ch ⟨e, g, hc⟩ => hc ▸ bad e (by simp only [pRecord, pBind, gI_err g]), fun _ _ => hs0, fun k s1 g_k => ?_⟩; replace g_k := gI_ok g_k; have hs1 : Small s1 := good_num _ _ _ g_k hs0; refine ⟨fun h1 => ?_, fun h1 => ⟨fun h2 => ?_, fun h2 => ⟨fun h3 => ?_, fun h3 => ⟨fun h4 => ?_, fun h4 => ?_⟩⟩⟩⟩
 ·intro a_vote; refine ⟨fun ch ⟨e, g, hc⟩ => hc ▸ bad e (by simp only [pRecord, pBind, g_k, if_pos h1, show pVote s1 = _ from g]), fun _ _ => hs1, fun l_0 l_1 l_2 l_3 l_4 l_5 s2 ⟨y, z, g, gl⟩ => ?_⟩; obtain rfl : s2 = z := by simpa using gl
  replace g : pVote s1 = .ok (y, s2) := g; refine ⟨⟨⟨k, y, motionZ, knownZ⟩, s2, by simp only [recordR, pRecord, pBind, g_k, if_pos h1, g], rfl⟩, fun w hw => ?_⟩; obtain ⟨⟨_, _⟩, ⟨x, z, e, p, h⟩⟩ := hw; cases e; replace p : pVote _ = .ok (_, _) := p; exact ⟨⟨k, x, motionZ, knownZ⟩, s2, rfl, by simp only [recordR, pRecord, pBind, g_k, if_pos h1, p]; first | done | rfl | simp [voteR], ⟨⟨h, motionZ_held _ _, knownZ_held _ _⟩, fun _ => ⟨rfl, rfl⟩⟩⟩
 ·intro a_motion; refine ⟨fun ch ⟨e, g, hc⟩ => hc ▸ bad e (by simp only [pRecord, pBind, g_k, if_neg h1, if_pos h2, show pMotion s1 = _ from g]), fun _ _ => hs1, fun l_0 l_1 l_2 l_3 l_4 l_5 l_6 l_7 l_8 l_9 l_10 l_11 l_12 l_13 l_14 l_15 l_16 l_17 l_18 l_19 s2 ⟨y, z, g, gl⟩ => ?_⟩; obtain rfl : s2 = z := by simpa using gl
  replace g : pMotion s1 = .ok (y, s2) := g; refine ⟨⟨⟨k, voteZ, y, knownZ⟩, s2, by simp only [recordR, pRecord, pBind, g_k, if_neg h1, if_pos h2, g], rfl⟩, fun w hw => ?_⟩; obtain ⟨⟨_, _⟩, ⟨x, z, e, p, h⟩⟩ := hw; cases e; replace p : pMotion _ = .ok (_, _) := p; exact ⟨⟨k, voteZ, x, knownZ⟩, s2, rfl, by simp only [recordR, pRecord, pBind, g_k, if_neg h1, if_pos h2, p]; first | done | rfl | simp [motionR], ⟨⟨voteZ_ok, h, knownZ_held _ _⟩, fun hk => absurd hk h1⟩⟩
 ·intro a_known; refine ⟨fun ch ⟨e, g, hc⟩ => hc ▸ bad e (by simp only [pRecord, pBind, g_k, if_neg h1, if_neg h2, if_pos (Or.inl h3 : k = 3 ∨ k = 4), show pKnown s1 = _ from g]), fun _ _ => hs1, fun l_0 l_1 l_2 l_3 l_4 l_5 l_6 l_7 l_8 l_9 l_10 l_11 l_12 l_13 l_14 l_15 l_16 l_17 l_18 l_19 l_20 l_21 l_22 s2 ⟨y, z, g, gl⟩ => ?_⟩; obtain rfl : s2 = z := by simpa using gl
  replace g : pKnown s1 = .ok (y, s2) := g; refine ⟨⟨⟨k, voteZ, motionZ, y⟩, s2, by simp only [recordR, pRecord, pBind, g_k, if_neg h1, if_neg h2, if_pos (Or.inl h3 : k = 3 ∨ k = 4), g], rfl⟩, fun w hw => ?_⟩; obtain ⟨⟨_, _⟩, ⟨x, z, e, p, h⟩⟩ := hw; cases e; replace p : pKnown _ = .ok (_, _) := p; exact ⟨⟨k, voteZ, motionZ, x⟩, s2, rfl, by simp only [recordR, pRecord, pBind, g_k, if_neg h1, if_neg h2, if_pos (Or.inl h3 : k = 3 ∨ k = 4), p]; first | done | rfl | simp [knownR], ⟨⟨voteZ_ok, motionZ_held _ _, h⟩, fun hk => absurd hk h1⟩⟩
 ·intro a_known; refine ⟨fun ch ⟨e, g, hc⟩ => hc ▸ bad e (by simp only [pRecord, pBind, g_k, if_neg h1, if_neg h2, if_pos (Or.inr h4 : k = 3 ∨ k = 4), show pKnown s1 = _ from g]), fun _ _ => hs1, fun l_0 l_1 l_2 l_3 l_4 l_5 l_6 l_7 l_8 l_9 l_10 l_11 l_12 l_13 l_14 l_15 l_16 l_17 l_18 l_19 l_20 l_21 l_22 s2 ⟨y, z, g, gl⟩ => ?_⟩; obtain rfl : s2 = z := by simpa using gl
  replace g : pKnown s1 = .ok (y, s2) := g; refine ⟨⟨⟨k, voteZ, motionZ, y⟩, s2, by simp only [recordR, pRecord, pBind, g_k, if_neg h1, if_neg h2, if_pos (Or.inr h4 : k = 3 ∨ k = 4), g], rfl⟩, fun w hw => ?_⟩; obtain ⟨⟨_, _⟩, ⟨x, z, e, p, h⟩⟩ := hw; cases e; replace p : pKnown _ = .ok (_, _) := p; exact ⟨⟨k, voteZ, motionZ, x⟩, s2, rfl, by simp only [recordR, pRecord, pBind, g_k, if_neg h1, if_neg h2, if_pos (Or.inr h4 : k = 3 ∨ k = 4), p]; first | done | rfl | simp [knownR], ⟨⟨voteZ_ok, motionZ_held _ _, h⟩, fun hk => absurd hk h1⟩⟩
 ·have h34 : ¬ (k = 3 ∨ k = 4) := fun h => h.elim h3 h4
  refine ⟨⟨⟨k, voteZ, motionZ, knownZ⟩, s1, by simp only [recordR, pRecord, pBind, g_k, if_neg h1, if_neg h2, if_neg h34], rfl⟩, fun w hw => ?_⟩; exact ⟨⟨k, voteZ, motionZ, knownZ⟩, s1, rfl, by simp only [recordR, pRecord, pBind, g_k, if_neg h1, if_neg h2, if_neg h34]; rfl, ⟨⟨voteZ_ok, motionZ_held _ _, knownZ_held _ _⟩, fun _ => ⟨rfl, rfl⟩⟩⟩
theorem Reads.bind {α β : Type} {p : ByteArray → Got α} {f : α → ByteArray → Got β} {q q1 q2 : Except Int ByteArray} {v : α} {u : β} (h : Reads q p q1 v) (g : Reads q1 (f v) q2 u) : Reads q (pBind p f) q2 u := (bind_step h).trans g
theorem pList_eq {α : Type} (most : Int) (p : ByteArray → Got α) : pList most p = pBind (pUpTo most) fun n => pRep p n.toNat := by
 funext s; unfold pList pBind; cases pUpTo most s <;> rfl
theorem Reads.ok {α : Type} (v : α) (q : Except Int ByteArray) : Reads q (fun z => .ok (v, z)) q v := by cases q <;> rfl
section
variable {D : Type} {R : Rdr D} {lim : D → Prop} {m : Nat} {k n a a1 e e1 a0 e0 : Int} {b b0 : ByteArray} {xs : List Value} {w : World}
end
theorem sumL_le {α : Type} {f : α → Nat} {c : Nat} : ∀ {l : List α}, (∀ x ∈ l, f x ≤ c) → sumL f l ≤ c * l.length
 | [], _ => Nat.zero_le _
 | x :: l, h => by
  have h1 := h x (by simp); have h2 := sumL_le (l := l) fun y hy => h y (by simp [hy])
  rw [sumL_cons, List.length_cons, Nat.mul_succ]; omega
def lim_cert : CertD → Prop := fun x => certM x ≤ 14
def lim_bench : BenD → Prop := fun x => x.l.length ≤ 7
def lim_proof : ProofD → Prop := fun x => proofM x ≤ 5000
def lim_sight : SightD → Prop := fun x => sightM x ≤ 60
def lim_tx : TxD → Prop := fun x => txM x ≤ 7300
def lim_block : BlockD → Prop := fun x => blockM x ≤ 117000
def lim_motion : MotionD → Prop := fun x => motionM x ≤ 117100
def lim_known : KnownD → Prop := fun x => knownM x ≤ 117100
def lim_record : RecordD → Prop := fun x => recordM x ≤ 240000
theorem lim_motionZ : motionM motionZ ≤ 117100 := by decide
theorem lim_knownZ : knownM knownZ ≤ 117100 := by decide
theorem list_map_out {α β : Type} (S : Out) (l : List α) (g : α → β) (n : Int) (f : Out → β → Out) : S.list (l.map g) n f = S.list l n fun S x => f S (g x) := by unfold Out.list; rw [List.foldl_map, List.length_map]
theorem sumL_map {α β : Type} (l : List α) (g : α → β) (f : β → Nat) : sumL f (l.map g) = sumL (fun x => f (g x)) l := by unfold sumL; rw [List.foldl_map]
theorem cert_strip (S : Out) (x : CertD) : S.cert (certR.strip x) = S.cert x := rfl
theorem proof_strip (S : Out) (x : ProofD) : S.proof (proofR.strip x) = S.proof x := rfl
theorem sight_strip (S : Out) (x : SightD) : S.sight (sightR.strip x) = S.sight x := rfl
theorem tx_strip (S : Out) (x : TxD) : S.tx (txR.strip x) = S.tx x := by
 unfold Out.tx; simp only [txR, list_map_out, txOk1, txOk2, txOk3, List.length_map, sight_strip, proof_strip]; rfl
theorem block_strip (S : Out) (x : BlockD) : S.block (blockR.strip x) = S.block x := by
 unfold Out.block; simp only [blockR, list_map_out, tx_strip]
theorem motion_strip (S : Out) (x : MotionD) : S.motion (motionR.strip x) = S.motion x := by
 unfold Out.motion; simp only [motionR, list_map_out, block_strip, cert_strip]; rfl
theorem known_strip (S : Out) (x : KnownD) : S.known (knownR.strip x) = S.known x := by
 unfold Out.known; simp only [knownR, block_strip, cert_strip]
theorem noMotion_strip (x : MotionD) : noMotion (motionR.strip x) = noMotion x := by
 simp only [noMotion, motionR, blockR, noBlock, List.length_map, List.isEmpty_map]; rfl
theorem noKnown_strip (x : KnownD) : noKnown (knownR.strip x) = noKnown x := by
 simp only [noKnown, knownR, blockR, certR, noBlock, noCert, List.length_map, List.isEmpty_map]; rfl
theorem record_strip (S : Out) (x : RecordD) : S.record (recordR.strip x) = S.record x := by
 unfold Out.record Out.what; simp only [recordR, noMotion_strip, noKnown_strip, motion_strip, known_strip]; rfl
theorem certM_strip (x : CertD) : certM (certR.strip x) = certM x := rfl
theorem proofM_strip (x : ProofD) : proofM (proofR.strip x) = proofM x := rfl
theorem sightM_strip (x : SightD) : sightM (sightR.strip x) = sightM x := rfl
theorem txM_strip (x : TxD) : txM (txR.strip x) = txM x := by
 simp only [txM, txR, sumL_map, sightM_strip, proofM_strip]
theorem blockM_strip (x : BlockD) : blockM (blockR.strip x) = blockM x := by
 simp only [blockM, blockR, sumL_map, txM_strip]
theorem motionM_strip (x : MotionD) : motionM (motionR.strip x) = motionM x := by
 simp only [motionM, motionR, sumL_map, blockM_strip, certM_strip]
theorem knownM_strip (x : KnownD) : knownM (knownR.strip x) = knownM x := by
 simp only [knownM, knownR, blockM_strip, certM_strip]
theorem recordM_strip (x : RecordD) : recordM (recordR.strip x) = recordM x := by
 simp only [recordM, recordR, motionM_strip, knownM_strip]
def Lim {α : Type} (p : ByteArray → Got α) (P : α → Prop) : Prop := ∀ s x r, p s = .ok (x, r) → P x
theorem Lim.bind {α β : Type} {p : ByteArray → Got α} {f : α → ByteArray → Got β} {P : α → Prop} {Q : β → Prop} (h : Lim p P) (g : ∀ x, P x → Lim (f x) Q) : Lim (pBind p f) Q := by
 intro s y r hs; unfold pBind at hs; split at hs
 ·cases hs
 ·next x t hx => exact g x (h s x t hx) t y r hs
theorem Lim.ok {α : Type} {Q : α → Prop} {v : α} (h : Q v) : Lim (fun z => .ok (v, z)) Q := by
 intro s y r hs; simp only [Except.ok.injEq, Prod.mk.injEq] at hs; rw [← hs.1]; exact h
theorem Lim.any {α : Type} (p : ByteArray → Got α) : Lim p fun _ => True := fun _ _ _ _ => trivial
theorem Lim.upto (n : Int) : Lim (pUpTo n) fun x => x ≤ n := by
 intro s x r h; unfold pUpTo at h; split at h
 ·cases h
 ·split at h
  ·cases h
  ·split at h
   ·cases h
   ·split at h
    ·cases h
    ·split at h
     ·cases h
     ·simp only [Except.ok.injEq, Prod.mk.injEq] at h; omega
theorem Lim.rep {α : Type} {p : ByteArray → Got α} {P : α → Prop} (h : Lim p P) : ∀ k, Lim (pRep p k) fun l => l.length = k ∧ ∀ x ∈ l, P x
 | 0 => by
  intro s l r hs; simp only [pRep, Except.ok.injEq, Prod.mk.injEq] at hs; rw [← hs.1]; exact ⟨rfl, fun _ h => absurd h (by simp)⟩
 | k + 1 => by
  intro s l r hs; unfold pRep at hs; split at hs
  ·cases hs
  ·next x s1 hx =>
   split at hs
   ·cases hs
   ·next l' s2 hl =>
    simp only [Except.ok.injEq, Prod.mk.injEq] at hs; obtain ⟨h1, h2⟩ := Lim.rep h k s1 l' s2 hl; rw [← hs.1]; refine ⟨by rw [List.length_cons, h1], fun y hy => ?_⟩
    rcases List.mem_cons.1 hy with rfl | hy
    ·exact h _ _ _ hx
    ·exact h2 y hy
theorem Lim.list {α : Type} {p : ByteArray → Got α} {P : α → Prop} (n : Int) (hn : 0 ≤ n) (h : Lim p P) : Lim (pList n p) fun l => (l.length : Int) ≤ n ∧ ∀ x ∈ l, P x := by
 rw [pList_eq]; refine (Lim.upto n).bind fun k hk => fun s l r hs => ?_
 obtain ⟨h1, h2⟩ := h.rep k.toNat s l r hs; exact ⟨by omega, h2⟩
theorem Lim.text (n : Int) (hn : 0 ≤ n) : Lim (pText n) fun t => (t.size : Int) ≤ n := by
 refine (Lim.upto n).bind fun k hk => fun s l r hs => ?_
 have := pTake_len hs; omega
theorem pcert_lim : Lim pCert lim_cert := by
 unfold pCert; exact (Lim.any _).bind fun _ _ => (Lim.any _).bind fun _ _ => (Lim.any _).bind fun _ _ => (Lim.any _).bind fun _ _ => (Lim.any _).bind fun _ _ => (Lim.list 7 (by decide) (Lim.any _)).bind fun l h => Lim.ok (by
  show certM _ ≤ 14; dsimp only [certM]; omega)
theorem pbench_lim : Lim pBench lim_bench := by
 unfold pBench; exact (Lim.list 7 (by decide) (Lim.any _)).bind fun l h => Lim.ok (by show l.length ≤ 7; omega)
theorem pproof_lim : Lim pProof lim_proof := by
 unfold pProof; exact (Lim.list 288 (by decide) (Lim.any _)).bind fun l h => (Lim.any _).bind fun _ _ => (Lim.text 32 (by decide)).bind fun k hk => (Lim.text 4096 (by decide)).bind fun v hv => Lim.ok (by
  show proofM _ ≤ 5000; have s1 := sumL_le (f := turnM) (c := 3) (l := l) fun x hx => Nat.le_refl _
  have s2 := size_list k; have s3 := size_list v; dsimp only [proofM]; omega)
theorem psight_lim : Lim pSight lim_sight := by
 unfold pSight; exact (Lim.any _).bind fun _ _ => pcert_lim.bind fun c hc => pbench_lim.bind fun b hb => Lim.ok (by
  show sightM _ ≤ 60; have s1 : certM c ≤ 14 := hc; have s2 : b.l.length ≤ 7 := hb; dsimp only [sightM, headerM]; omega)
theorem ptx_lim : Lim pTx lim_tx := by
 unfold pTx; exact (Lim.any _).bind fun _ _ => (Lim.any _).bind fun _ _ => (Lim.any _).bind fun _ _ => (Lim.any _).bind fun _ _ => (Lim.any _).bind fun _ _ => (Lim.any _).bind fun _ _ => (Lim.any _).bind fun _ _ => (Lim.text 2048 (by decide)).bind fun t ht => (Lim.list 8 (by decide) (Lim.any _)).bind fun l hl => (Lim.list 1 (by decide) psight_lim).bind fun m hm => (Lim.list 1 (by decide) pproof_lim).bind fun q hq => Lim.ok (by
  show txM _ ≤ 7300; have s1 := sumL_le (f := sightM) (c := 60) (l := m) hm.2; have s2 := sumL_le (f := proofM) (c := 5000) (l := q) hq.2; have s3 := size_list t; dsimp only [txM]; omega)
theorem pblock_lim : Lim pBlock lim_block := by
 unfold pBlock; exact (Lim.any _).bind fun _ _ => (Lim.list 16 (by decide) ptx_lim).bind fun l hl => (Lim.list 4 (by decide) (Lim.any _)).bind fun g hg => Lim.ok (by
  show blockM _ ≤ 117000; have s1 := sumL_le (f := txM) (c := 7300) (l := l) hl.2; have s2 := sumL_le (f := guiltM) (c := 15) (l := g) fun x hx => Nat.le_refl _
  dsimp only [blockM, headerM]; omega)
theorem pmotion_lim : Lim pMotion lim_motion := by
 unfold pMotion; exact (Lim.any _).bind fun _ _ => (Lim.any _).bind fun _ _ => pblock_lim.bind fun b hb => (Lim.list 1 (by decide) pcert_lim).bind fun l hl => Lim.ok (by
  show motionM _ ≤ 117100; have s1 : blockM b ≤ 117000 := hb; have s2 := sumL_le (f := certM) (c := 14) (l := l) hl.2; dsimp only [motionM]; omega)
theorem pknown_lim : Lim pKnown lim_known := by
 unfold pKnown; exact pcert_lim.bind fun c hc => pblock_lim.bind fun b hb => Lim.ok (by
  show knownM _ ≤ 117100; have s1 : certM c ≤ 14 := hc; have s2 : blockM b ≤ 117000 := hb; dsimp only [knownM]; omega)
theorem precord_lim : Lim pRecord lim_record := by
 unfold pRecord; have m1 := lim_motionZ; have m2 := lim_knownZ; refine (Lim.any _).bind fun k _ => ?_
 split
 ·exact (Lim.any _).bind fun _ _ => Lim.ok (by show recordM _ ≤ 240000; dsimp only [recordM, voteM]; omega)
 ·split
  ·exact pmotion_lim.bind fun m hm => Lim.ok (by have s1 : motionM m ≤ 117100 := hm; show recordM _ ≤ 240000; dsimp only [recordM, voteM]; omega)
  ·split
   ·exact pknown_lim.bind fun m hm => Lim.ok (by have s1 : knownM m ≤ 117100 := hm; show recordM _ ≤ 240000; dsimp only [recordM, voteM]; omega)
   ·exact Lim.ok (by show recordM _ ≤ 240000; dsimp only [recordM, voteM]; omega)
end Go.Proofs.Ytjhaafbbdgjagaa
