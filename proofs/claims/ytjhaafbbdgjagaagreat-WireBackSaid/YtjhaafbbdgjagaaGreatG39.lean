/- Of the texts Gp4, Gp5, Gr1. -/
import Derived.Test.YtjhaafbbdgjagaaGreatProg
import Derived.Test.YtjhaafbbdgjagaaGreatG38
set_option linter.unusedSimpArgs false
set_option linter.unusedVariables false
namespace Go.Proofs.YtjhaafbbdgjagaaGreat
open Go.RowKit Vc
set_option maxRecDepth 100000
def pAccount : ByteArray → Got AccountD := pBind pNum fun b => pBind pNum fun f => pBind pNum fun n => pBind pNum fun o => pBind pNum fun l => pBind pNum fun a => pBind pFlag fun j => fun z => .ok (⟨b, f, n, o, l, a, j⟩, z)
def accountR : Rdr AccountD := { us := fun x => [.i x.b, .i x.f, .i x.n, .i x.o, .i x.l, .i x.a, .b x.j], cells := fun x => [], strip := fun x => x, held := fun w x => True, p := pAccount }
def cfg_paccount : Cfg := { con := [(58, 0), (149, 0)], lents := [(58, [(0, 208)]), (149, [(0, 208)])], mine := [(0, 208)], pans := [58, 149], unroll := [(2, 7)] }
def vcd_paccount : { v : VC // vcOf Tryz.prog cfg_paccount 206 = v } := by refine ⟨?v, ?h⟩; rotate_left; conv => lhs; reduce
theorem vce_paccount : vcOf Tryz.prog cfg_paccount 206 = vcd_paccount.1 := vcd_paccount.2
set_option linter.unusedVariables false in
theorem paccount_ok : KeepsL Tryz.prog 206 (elemC accountR) cfg_paccount.mine := by
 refine keepsL_v Tryz.func206 cfg_paccount vce_paccount [.p, .s] (elemC accountR) [(58, PNumS), (149, PFlagS)] ⟨pnum_ok, pflag_ok, trivial⟩ (by kernel_rfl) (fun _ _ _ h => h) ?_; intro x0 s0 w hp; refine ⟨[], vc_use ?Q ?h ?g⟩
 case h => intro O C s I b; conv => lhs; reduce
 dsimp only [std]; simp only [ctrOf, invOf, List.lookup, Nat.reduceBEq, Option.getD_some, Int.reduceOfNat, Int.reduceNegSucc]; have hs0 : Small s0 := hp; have bad : ∀ e, pAccount s0 = .error e → (elemC accountR).pan [.p x0, .s s0] (stopCh e) := fun e h => ⟨e, h, rfl⟩
 simp only [rdC, PNumS, numF, PFlagS, flagF]; intro a_b; refine ⟨fun ch ⟨e, g, hc⟩ => hc ▸ bad e (by simp only [pAccount, pBind, gI_err g]), fun _ _ => hs0, fun b s1 g_b => ?_⟩; replace g_b := gI_ok g_b; have hs1 : Small s1 := good_num _ _ _ g_b hs0; refine ⟨⟨by decide, by decide⟩, ?_⟩; intro a_f; refine ⟨fun ch ⟨e, g, hc⟩ => hc ▸ bad e (by simp only [pAccount, pBind, g_b, gI_err g]), fun _ _ => hs1, fun f s2 g_f => ?_⟩; replace g_f := gI_ok g_f; have hs2 : Small s2 := good_num _ _ _ g_f hs1; refine ⟨⟨by decide, by decide⟩, ?_⟩; intro a_n; refine ⟨fun ch ⟨e, g, hc⟩ => hc ▸ bad e (by simp only [pAccount, pBind, g_b, g_f, gI_err g]), fun _ _ => hs2, fun n s3 g_n => ?_⟩; replace g_n := gI_ok g_n; have hs3 : Small s3 := good_num _ _ _ g_n hs2; refine ⟨⟨by decide, by decide⟩, ?_⟩; intro a_o; refine ⟨fun ch ⟨e, g, hc⟩ => hc ▸ bad e (by simp only [pAccount, pBind, g_b, g_f, g_n, gI_err g]), fun _ _ => hs3, fun o s4 g_o => ?_⟩; replace g_o := gI_ok g_o; have hs4 : Small s4 := good_num _ _ _ g_o hs3; refine ⟨⟨by decide, by decide⟩, ?_⟩; intro a_l; refine ⟨fun ch ⟨e, g, hc⟩ => hc ▸ bad e (by simp only [pAccount, pBind, g_b, g_f, g_n, g_o, gI_err g]), fun _ _ => hs4, fun l s5 g_l => ?_⟩; replace g_l := gI_ok g_l; have hs5 : Small s5 := good_num _ _ _ g_l hs4; refine ⟨⟨by decide, by decide⟩, ?_⟩; intro a_a; refine ⟨fun ch ⟨e, g, hc⟩ => hc ▸ bad e (by simp only [pAccount, pBind, g_b, g_f, g_n, g_o, g_l, gI_err g]), fun _ _ => hs5, fun a s6 g_a => ?_⟩; replace g_a := gI_ok g_a; have hs6 : Small s6 := good_num _ _ _ g_a hs5; refine ⟨⟨by decide, by decide⟩, ?_⟩; intro a_j; refine ⟨fun ch ⟨e, g, hc⟩ => hc ▸ bad e (by simp only [pAccount, pBind, g_b, g_f, g_n, g_o, g_l, g_a, gB_err g]), fun _ _ => hs6, fun j s7 g_j => ?_⟩; replace g_j := gB_ok g_j; have hs7 : Small s7 := good_flag _ _ _ g_j hs6; refine ⟨⟨⟨b, f, n, o, l, a, j⟩, s7, by simp only [accountR, pAccount, pBind, g_b, g_f, g_n, g_o, g_l, g_a, g_j], rfl⟩, fun w hw => ?_⟩; obtain ⟨⟨⟨⟨⟨⟨⟨_, _⟩, _⟩, _⟩, _⟩, _⟩, _⟩, _⟩ := hw
 exact ⟨⟨b, f, n, o, l, a, j⟩, s7, rfl, by simp only [accountR, pAccount, pBind, g_b, g_f, g_n, g_o, g_l, g_a, g_j], trivial⟩
def pTx : ByteArray → Got TxD := pBind pNum fun k => pBind pNum fun f => pBind pNum fun n => pBind pNum fun p => pBind pNum fun l => pBind pNum fun t => pBind pNum fun a => pBind (pText 2048) fun text => pBind (pList 8 pNum) fun args => pBind (pList 1 pSight) fun sights => pBind (pList 1 pProof) fun proofs => fun z => .ok (⟨k, f, n, p, l, t, a, text.data.toList, args, none, 0, sights, none, 0, proofs, none, 0⟩, z)
theorem good_tx : Good pTx := by unfold pTx; exact good_bind good_num fun _ => good_bind good_num fun _ => good_bind good_num fun _ => good_bind good_num fun _ => good_bind good_num fun _ => good_bind good_num fun _ => good_bind good_num fun _ => good_bind (good_text _) fun _ => good_bind (good_list _ good_num) fun _ => good_bind (good_list _ good_sight) fun _ => good_bind (good_list _ good_proof) fun _ => good_ok _
def txR : Rdr TxD := { us := fun x => [.i x.k, .i x.f, .i x.n, .i x.p, .i x.l, .i x.t, .i x.a, .s (bs x.text), .p x.aa, .n x.args.length, .n x.ac, .p x.sa, .n x.sights.length, .n x.sc, .p x.pa, .n x.proofs.length, .n x.pc], cells := fun x => x.cells, strip := fun x => { x with aa := none, ac := 0, sights := x.sights.map sightR.strip, sa := none, sc := 0, proofs := x.proofs.map proofR.strip, pa := none, pc := 0 }, held := fun w x => x.held w w.heap.size, p := pTx }
def cfg_ptx : Cfg := { con := [(58, 0), (173, 0), (161, 0), (180, 0), (182, 0)], lents := [(58, [(0, 208)]), (173, [(0, 208)]), (161, [(0, 208)]), (180, [(0, 208)]), (182, [(0, 208)])], mine := [(0, 208)], pans := [58, 173, 161, 180, 182], unroll := [(2, 8)] }
def vcd_ptx : { v : VC // vcOf Tryz.prog cfg_ptx 102 = v } := by refine ⟨?v, ?h⟩; rotate_left; conv => lhs; reduce
theorem vce_ptx : vcOf Tryz.prog cfg_ptx 102 = vcd_ptx.1 := vcd_ptx.2
set_option linter.unusedVariables false in
theorem ptx_ok : KeepsL Tryz.prog 102 (elemC txR) cfg_ptx.mine := by
 refine keepsL_v Tryz.func102 cfg_ptx vce_ptx [.p, .s] (elemC txR) [(58, PNumS), (173, PTextS), (161, (listC numR 58 1)), (180, (listC sightR 181 16)), (182, (listC proofR 96 4))] ⟨pnum_ok, ptext_ok, getsnum_ok, getssight_ok, getsproof_ok, trivial⟩ (by kernel_rfl) (fun _ _ _ h => h) ?_; intro x0 s0 w hp; refine ⟨[], vc_use ?Q ?h ?g⟩
 case h => intro O C s I b; conv => lhs; reduce
 dsimp only [std]; simp only [ctrOf, invOf, List.lookup, Nat.reduceBEq, Option.getD_some, Int.reduceOfNat, Int.reduceNegSucc]; have hs0 : Small s0 := hp; have bad : ∀ e, pTx s0 = .error e → (elemC txR).pan [.p x0, .s s0] (stopCh e) := fun e h => ⟨e, h, rfl⟩
 simp only [rdC, PNumS, numF, PTextS, rtextF]; intro a_k; refine ⟨fun ch ⟨e, g, hc⟩ => hc ▸ bad e (by simp only [pTx, pBind, gI_err g]), fun _ _ => hs0, fun k s1 g_k => ?_⟩; replace g_k := gI_ok g_k; have hs1 : Small s1 := good_num _ _ _ g_k hs0; refine ⟨⟨by decide, by decide⟩, ?_⟩; intro a_f; refine ⟨fun ch ⟨e, g, hc⟩ => hc ▸ bad e (by simp only [pTx, pBind, g_k, gI_err g]), fun _ _ => hs1, fun f s2 g_f => ?_⟩; replace g_f := gI_ok g_f; have hs2 : Small s2 := good_num _ _ _ g_f hs1; refine ⟨⟨by decide, by decide⟩, ?_⟩; intro a_n; refine ⟨fun ch ⟨e, g, hc⟩ => hc ▸ bad e (by simp only [pTx, pBind, g_k, g_f, gI_err g]), fun _ _ => hs2, fun n s3 g_n => ?_⟩; replace g_n := gI_ok g_n; have hs3 : Small s3 := good_num _ _ _ g_n hs2; refine ⟨⟨by decide, by decide⟩, ?_⟩; intro a_p; refine ⟨fun ch ⟨e, g, hc⟩ => hc ▸ bad e (by simp only [pTx, pBind, g_k, g_f, g_n, gI_err g]), fun _ _ => hs3, fun p s4 g_p => ?_⟩; replace g_p := gI_ok g_p; have hs4 : Small s4 := good_num _ _ _ g_p hs3; refine ⟨⟨by decide, by decide⟩, ?_⟩; intro a_l; refine ⟨fun ch ⟨e, g, hc⟩ => hc ▸ bad e (by simp only [pTx, pBind, g_k, g_f, g_n, g_p, gI_err g]), fun _ _ => hs4, fun l s5 g_l => ?_⟩; replace g_l := gI_ok g_l; have hs5 : Small s5 := good_num _ _ _ g_l hs4; refine ⟨⟨by decide, by decide⟩, ?_⟩; intro a_t; refine ⟨fun ch ⟨e, g, hc⟩ => hc ▸ bad e (by simp only [pTx, pBind, g_k, g_f, g_n, g_p, g_l, gI_err g]), fun _ _ => hs5, fun t s6 g_t => ?_⟩; replace g_t := gI_ok g_t; have hs6 : Small s6 := good_num _ _ _ g_t hs5; refine ⟨⟨by decide, by decide⟩, ?_⟩; intro a_a; refine ⟨fun ch ⟨e, g, hc⟩ => hc ▸ bad e (by simp only [pTx, pBind, g_k, g_f, g_n, g_p, g_l, g_t, gI_err g]), fun _ _ => hs6, fun a s7 g_a => ?_⟩; replace g_a := gI_ok g_a; have hs7 : Small s7 := good_num _ _ _ g_a hs6; refine ⟨⟨by decide, by decide⟩, ?_⟩; intro a_text; refine ⟨fun ch ⟨e, g, hc⟩ => hc ▸ bad e (by simp only [pTx, pBind, g_k, g_f, g_n, g_p, g_l, g_t, g_a, gS_err g]), fun _ _ => ⟨hs7, by decide⟩, fun t_text s8 g_text => ?_⟩
 replace g_text := gS_ok g_text; have hs8 : Small s8 := good_text _ _ _ _ g_text hs7; intro a_args; refine ⟨fun ch ⟨e, g, hc⟩ => hc ▸ bad e (by simp only [pTx, pBind, g_k, g_f, g_n, g_p, g_l, g_t, g_a, g_text, show pList 8 pNum s8 = _ from g]), fun _ _ => ⟨hs8, rfl, by decide⟩, fun a1_args n_args c1_args s9 ⟨y_args, g_args, _⟩ => ?_⟩; replace g_args : pList 8 pNum s8 = .ok (y_args, s9) := g_args; have hs9 : Small s9 := good_list _ good_num _ _ _ g_args hs8; intro a_sights; refine ⟨fun ch ⟨e, g, hc⟩ => hc ▸ bad e (by simp only [pTx, pBind, g_k, g_f, g_n, g_p, g_l, g_t, g_a, g_text, g_args, show pList 1 pSight s9 = _ from g]), fun _ _ => ⟨hs9, rfl, by decide⟩, fun a1_sights n_sights c1_sights s10 ⟨y_sights, g_sights, _⟩ => ?_⟩; replace g_sights : pList 1 pSight s9 = .ok (y_sights, s10) := g_sights; have hs10 : Small s10 := good_list _ good_sight _ _ _ g_sights hs9; intro a_proofs; refine ⟨fun ch ⟨e, g, hc⟩ => hc ▸ bad e (by simp only [pTx, pBind, g_k, g_f, g_n, g_p, g_l, g_t, g_a, g_text, g_args, g_sights, show pList 1 pProof s10 = _ from g]), fun _ _ => ⟨hs10, rfl, by decide⟩, fun a1_proofs n_proofs c1_proofs s11 ⟨y_proofs, g_proofs, _⟩ => ?_⟩; replace g_proofs : pList 1 pProof s10 = .ok (y_proofs, s11) := g_proofs; have hs11 : Small s11 := good_list _ good_proof _ _ _ g_proofs hs10; refine ⟨⟨⟨k, f, n, p, l, t, a, t_text.data.toList, y_args, none, 0, y_sights, none, 0, y_proofs, none, 0⟩, s11, by simp only [txR, pTx, pBind, g_k, g_f, g_n, g_p, g_l, g_t, g_a, g_text, g_args, g_sights, g_proofs], rfl⟩, fun w hw => ?_⟩; obtain ⟨⟨⟨⟨⟨⟨⟨⟨⟨⟨⟨_, _⟩, _⟩, _⟩, _⟩, _⟩, _⟩, _⟩, _⟩, ⟨l_args, q_args, m_args, r_args, h_args⟩⟩, ⟨l_sights, q_sights, m_sights, r_sights, h_sights⟩⟩, ⟨l_proofs, q_proofs, m_proofs, r_proofs, h_proofs⟩⟩ := hw; subst m_args; replace q_args : pList 8 pNum _ = .ok (_, _) := q_args; subst m_sights; replace q_sights : pList 1 pSight _ = .ok (_, _) := q_sights; subst m_proofs; replace q_proofs : pList 1 pProof _ = .ok (_, _) := q_proofs
 have b_text := bs_back t_text; exact ⟨⟨k, f, n, p, l, t, a, t_text.data.toList, l_args, a1_args, c1_args, l_sights, a1_sights, c1_sights, l_proofs, a1_proofs, c1_proofs⟩, s11, by simp only [txR, b_text]; rfl, by simp only [txR, pTx, pBind, g_k, g_f, g_n, g_p, g_l, g_t, g_a, g_text, q_args, q_sights, q_proofs]; first | done | rfl | simp [numR, proofR, sightR], ⟨ints_of r_args, r_sights, r_proofs, ⟨short_of q_args, short_of q_sights, short_of q_proofs⟩, h_sights, h_proofs⟩⟩
def cfg_gtx : Cfg := { con := [(138, 0), (102, 0)], loops := [(4, { slots := [8, 13], blks := [0], rows := [8], extra := [.var 5, .var 6] })], rows := [(8, 94)], lents := [(138, [(0, 208)]), (102, [(0, 208)])], mine := [(0, 208)], pans := [138, 102], fns := [(18, 102)] }
def vcd_gtx : { v : VC // vcOf Tryz.prog cfg_gtx 247 = v } := by refine ⟨?v, ?h⟩; rotate_left; conv => lhs; reduce
theorem vce_gtx : vcOf Tryz.prog cfg_gtx 247 = vcd_gtx.1 := vcd_gtx.2
theorem getstx_ok : KeepsL Tryz.prog 247 (listC txR 102 11) cfg_gtx.mine := by
 refine keepsL_v Tryz.func247 cfg_gtx vce_gtx [.p, .i, .v, .s] (listC txR 102 11) [(138, PUpToS), (102, elemC txR)] ⟨pupto_ok, ptx_ok, trivial⟩ (by kernel_rfl) (fun _ _ _ h => h) ?_; intro x0 x1 x2 x3 w hp; refine ⟨[(4, listInv txR)], vc_use ?Q ?h ?g⟩
 case h => intro O C s I b; conv => lhs; reduce
 dsimp only [std]; simp only [ctrOf, invOf, List.lookup, Nat.reduceBEq, Option.getD_some, Int.reduceOfNat, Int.reduceNegSucc]; obtain ⟨hs, rfl, hm⟩ : Small x3 ∧ x2 = .func (.func 102) #[] #[] ∧ x1 ≤ 1000000 := hp; simp only [PUpToS, rdC, upToF]; intro x4; refine ⟨fun ch ⟨e, h1, h2⟩ => h2 ▸ list_pan1 (gI_err h1) _, fun _ _ => hs, fun x5 x6 h1 => ?_⟩; have h1 := gI_ok h1; obtain ⟨i1, i2⟩ := list_init (R := txR) h1 hs hm; refine ⟨i1, fun w _ => i2 w, fun m xs k sk hi => ⟨fun hk => ⟨trivial, fun a => ⟨fun ch ⟨e, g1, g2⟩ => g2 ▸ list_pan2 h1 hi hk g1 _, fun _ _ => hi.2.2.2.2.1, fun l0 l1 l2 l3 l4 l5 l6 l7 l8 l9 l10 l11 l12 l13 l14 l15 l16 s' ⟨y, z, g, gl⟩ => ?_⟩⟩, fun hk A c => ?_⟩⟩
 ·obtain rfl : s' = z := by simpa using gl
  obtain ⟨n1, n2, n3, n4, n5⟩ := list_next (R := txR) hi hk g (good_tx _ _ _ g hi.2.2.2.2.1) 144 (by decide) _; refine ⟨n1, n2, n3, n4, fun w ⟨⟨_, f⟩, ⟨x, z, e1, e2, e3⟩⟩ => ?_, n5 _, trivial⟩; cases e1; obtain ⟨l, q1, q2, q3⟩ := list_step (R := txR) hi.1 f e2 e3; exact ⟨l, q1, (show xs ++ _ = _ from by rw [← q2]; exact congrArg (xs ++ ·) (by kernel_rfl)), q3⟩
 ·obtain ⟨f1, f2⟩ := list_fin (R := txR) (A := A) (c := c) (a := x0) (fg := 102) (size := 11) h1 hi hk (.func (.func 102) #[] #[]); exact ⟨f1, fun w ⟨⟨_, f⟩, o⟩ => f2 f o⟩
def pBlock : ByteArray → Got BlockD := pBind pHeader fun header => pBind (pList 16 pTx) fun txs => pBind (pList 4 pGuilt) fun guilts => fun z => .ok (⟨header, txs, none, 0, guilts, none, 0⟩, z)
theorem good_block : Good pBlock := by unfold pBlock; exact good_bind good_header fun _ => good_bind (good_list _ good_tx) fun _ => good_bind (good_list _ good_guilt) fun _ => good_ok _
def blockR : Rdr BlockD := { us := fun x => [.i x.header.c, .i x.header.h, .i x.header.p, .i x.header.t, .i x.header.g, .i x.header.s, .i x.header.r, .i x.header.b, .i x.header.o, .p x.ta, .n x.txs.length, .n x.tc, .p x.ga, .n x.guilts.length, .n x.gc], cells := fun x => x.cells, strip := fun x => { x with txs := x.txs.map txR.strip, ta := none, tc := 0, ga := none, gc := 0 }, held := fun w x => x.held w w.heap.size, p := pBlock }
def cfg_pblock : Cfg := { con := [(90, 0), (247, 0), (248, 0)], lents := [(90, [(0, 208)]), (247, [(0, 208)]), (248, [(0, 208)])], mine := [(0, 208)], pans := [90, 247, 248] }
def vcd_pblock : { v : VC // vcOf Tryz.prog cfg_pblock 192 = v } := by refine ⟨?v, ?h⟩; rotate_left; conv => lhs; reduce
theorem vce_pblock : vcOf Tryz.prog cfg_pblock 192 = vcd_pblock.1 := vcd_pblock.2
set_option linter.unusedVariables false in
theorem pblock_ok : KeepsL Tryz.prog 192 (elemC blockR) cfg_pblock.mine := by
 refine keepsL_v Tryz.func192 cfg_pblock vce_pblock [.p, .s] (elemC blockR) [(90, (elemC headerR)), (247, (listC txR 102 11)), (248, (listC guiltR 108 12))] ⟨pheader_ok, getstx_ok, getsguilt_ok, trivial⟩ (by kernel_rfl) (fun _ _ _ h => h) ?_; intro x0 s0 w hp; refine ⟨[], vc_use ?Q ?h ?g⟩
 case h => intro O C s I b; conv => lhs; reduce
 dsimp only [std]; simp only [ctrOf, invOf, List.lookup, Nat.reduceBEq, Option.getD_some, Int.reduceOfNat, Int.reduceNegSucc]; have hs0 : Small s0 := hp; have bad : ∀ e, pBlock s0 = .error e → (elemC blockR).pan [.p x0, .s s0] (stopCh e) := fun e h => ⟨e, h, rfl⟩
 intro a_header; refine ⟨fun ch ⟨e, g, hc⟩ => hc ▸ bad e (by simp only [pBlock, pBind, show pHeader s0 = _ from g]), fun _ _ => hs0, fun l_header_0 l_header_1 l_header_2 l_header_3 l_header_4 l_header_5 l_header_6 l_header_7 l_header_8 s1 ⟨y_header, z_header, g_header, gl⟩ => ?_⟩; obtain rfl : s1 = z_header := by simpa using gl
 replace g_header : pHeader s0 = .ok (y_header, s1) := g_header; have hs1 : Small s1 := good_header _ _ _ g_header hs0; intro a_txs; refine ⟨fun ch ⟨e, g, hc⟩ => hc ▸ bad e (by simp only [pBlock, pBind, g_header, show pList 16 pTx s1 = _ from g]), fun _ _ => ⟨hs1, rfl, by decide⟩, fun a1_txs n_txs c1_txs s2 ⟨y_txs, g_txs, _⟩ => ?_⟩; replace g_txs : pList 16 pTx s1 = .ok (y_txs, s2) := g_txs; have hs2 : Small s2 := good_list _ good_tx _ _ _ g_txs hs1; intro a_guilts; refine ⟨fun ch ⟨e, g, hc⟩ => hc ▸ bad e (by simp only [pBlock, pBind, g_header, g_txs, show pList 4 pGuilt s2 = _ from g]), fun _ _ => ⟨hs2, rfl, by decide⟩, fun a1_guilts n_guilts c1_guilts s3 ⟨y_guilts, g_guilts, _⟩ => ?_⟩; replace g_guilts : pList 4 pGuilt s2 = .ok (y_guilts, s3) := g_guilts; have hs3 : Small s3 := good_list _ good_guilt _ _ _ g_guilts hs2; refine ⟨⟨⟨y_header, y_txs, none, 0, y_guilts, none, 0⟩, s3, by simp only [blockR, pBlock, pBind, g_header, g_txs, g_guilts], rfl⟩, fun w hw => ?_⟩; obtain ⟨⟨⟨_, ⟨x_header, w_header, e_header, p_header, h_header⟩⟩, ⟨l_txs, q_txs, m_txs, r_txs, h_txs⟩⟩, ⟨l_guilts, q_guilts, m_guilts, r_guilts, h_guilts⟩⟩ := hw; cases e_header; replace p_header : pHeader _ = .ok (_, _) := p_header; subst m_txs; replace q_txs : pList 16 pTx _ = .ok (_, _) := q_txs; subst m_guilts; replace q_guilts : pList 4 pGuilt _ = .ok (_, _) := q_guilts; exact ⟨⟨x_header, l_txs, a1_txs, c1_txs, l_guilts, a1_guilts, c1_guilts⟩, s3, rfl, by simp only [blockR, pBlock, pBind, p_header, q_txs, q_guilts]; first | done | rfl | simp [guiltR, headerR, txR], ⟨h_header, r_txs, r_guilts, ⟨short_of q_txs, short_of q_guilts⟩, h_txs, h_guilts⟩⟩
def pMotion : ByteArray → Got MotionD := pBind pNum fun r => pBind pNum fun f => pBind pBlock fun block => pBind (pList 1 pCert) fun basis => fun z => .ok (⟨r, f, block, basis, none, 0⟩, z)
theorem good_motion : Good pMotion := by unfold pMotion; exact good_bind good_num fun _ => good_bind good_num fun _ => good_bind good_block fun _ => good_bind (good_list _ good_cert) fun _ => good_ok _
def motionR : Rdr MotionD := { us := fun x => [.i x.r, .i x.f, .i x.block.header.c, .i x.block.header.h, .i x.block.header.p, .i x.block.header.t, .i x.block.header.g, .i x.block.header.s, .i x.block.header.r, .i x.block.header.b, .i x.block.header.o, .p x.block.ta, .n x.block.txs.length, .n x.block.tc, .p x.block.ga, .n x.block.guilts.length, .n x.block.gc, .p x.ba, .n x.basis.length, .n x.bc], cells := fun x => x.cells, strip := fun x => { x with block := blockR.strip x.block, basis := x.basis.map certR.strip, ba := none, bc := 0 }, held := fun w x => x.held w w.heap.size, p := pMotion }
def cfg_pmotion : Cfg := { con := [(58, 0), (192, 0), (270, 0)], lents := [(58, [(0, 208)]), (192, [(0, 208)]), (270, [(0, 208)])], mine := [(0, 208)], pans := [58, 192, 270] }
def vcd_pmotion : { v : VC // vcOf Tryz.prog cfg_pmotion 254 = v } := by refine ⟨?v, ?h⟩; rotate_left; conv => lhs; reduce
theorem vce_pmotion : vcOf Tryz.prog cfg_pmotion 254 = vcd_pmotion.1 := vcd_pmotion.2
set_option linter.unusedVariables false in
theorem pmotion_ok : KeepsL Tryz.prog 254 (elemC motionR) cfg_pmotion.mine := by
 refine keepsL_v Tryz.func254 cfg_pmotion vce_pmotion [.p, .s] (elemC motionR) [(58, PNumS), (192, (elemC blockR)), (270, (listC certR 78 6))] ⟨pnum_ok, pblock_ok, getscert_ok, trivial⟩ (by kernel_rfl) (fun _ _ _ h => h) ?_; intro x0 s0 w hp; refine ⟨[], vc_use ?Q ?h ?g⟩
 case h => intro O C s I b; conv => lhs; reduce
 dsimp only [std]; simp only [ctrOf, invOf, List.lookup, Nat.reduceBEq, Option.getD_some, Int.reduceOfNat, Int.reduceNegSucc]; have hs0 : Small s0 := hp; have bad : ∀ e, pMotion s0 = .error e → (elemC motionR).pan [.p x0, .s s0] (stopCh e) := fun e h => ⟨e, h, rfl⟩
 simp only [rdC, PNumS, numF]; intro a_r; refine ⟨fun ch ⟨e, g, hc⟩ => hc ▸ bad e (by simp only [pMotion, pBind, gI_err g]), fun _ _ => hs0, fun r s1 g_r => ?_⟩; replace g_r := gI_ok g_r; have hs1 : Small s1 := good_num _ _ _ g_r hs0; intro a_f; refine ⟨fun ch ⟨e, g, hc⟩ => hc ▸ bad e (by simp only [pMotion, pBind, g_r, gI_err g]), fun _ _ => hs1, fun f s2 g_f => ?_⟩; replace g_f := gI_ok g_f; have hs2 : Small s2 := good_num _ _ _ g_f hs1; intro a_block; refine ⟨fun ch ⟨e, g, hc⟩ => hc ▸ bad e (by simp only [pMotion, pBind, g_r, g_f, show pBlock s2 = _ from g]), fun _ _ => hs2, fun l_block_0 l_block_1 l_block_2 l_block_3 l_block_4 l_block_5 l_block_6 l_block_7 l_block_8 l_block_9 l_block_10 l_block_11 l_block_12 l_block_13 l_block_14 s3 ⟨y_block, z_block, g_block, gl⟩ => ?_⟩; obtain rfl : s3 = z_block := by simpa using gl
 replace g_block : pBlock s2 = .ok (y_block, s3) := g_block; have hs3 : Small s3 := good_block _ _ _ g_block hs2; intro a_basis; refine ⟨fun ch ⟨e, g, hc⟩ => hc ▸ bad e (by simp only [pMotion, pBind, g_r, g_f, g_block, show pList 1 pCert s3 = _ from g]), fun _ _ => ⟨hs3, rfl, by decide⟩, fun a1_basis n_basis c1_basis s4 ⟨y_basis, g_basis, _⟩ => ?_⟩; replace g_basis : pList 1 pCert s3 = .ok (y_basis, s4) := g_basis; have hs4 : Small s4 := good_list _ good_cert _ _ _ g_basis hs3; refine ⟨⟨⟨r, f, y_block, y_basis, none, 0⟩, s4, by simp only [motionR, pMotion, pBind, g_r, g_f, g_block, g_basis], rfl⟩, fun w hw => ?_⟩; obtain ⟨⟨⟨⟨_, _⟩, _⟩, ⟨x_block, w_block, e_block, p_block, h_block⟩⟩, ⟨l_basis, q_basis, m_basis, r_basis, h_basis⟩⟩ := hw; cases e_block; replace p_block : pBlock _ = .ok (_, _) := p_block; subst m_basis; replace q_basis : pList 1 pCert _ = .ok (_, _) := q_basis; exact ⟨⟨r, f, x_block, l_basis, a1_basis, c1_basis⟩, s4, rfl, by simp only [motionR, pMotion, pBind, g_r, g_f, p_block, q_basis]; first | done | rfl | simp [blockR, certR], ⟨h_block, r_basis, short_of q_basis, h_basis⟩⟩
def cfg_gmotion : Cfg := { con := [(138, 0), (254, 0)], loops := [(4, { slots := [8, 13], blks := [0], rows := [8], extra := [.var 5, .var 6] })], rows := [(8, 59)], lents := [(138, [(0, 208)]), (254, [(0, 208)])], mine := [(0, 208)], pans := [138, 254], fns := [(18, 254)] }
def vcd_gmotion : { v : VC // vcOf Tryz.prog cfg_gmotion 253 = v } := by refine ⟨?v, ?h⟩; rotate_left; conv => lhs; reduce
theorem vce_gmotion : vcOf Tryz.prog cfg_gmotion 253 = vcd_gmotion.1 := vcd_gmotion.2
theorem getsmotion_ok : KeepsL Tryz.prog 253 (listC motionR 254 14) cfg_gmotion.mine := by
 refine keepsL_v Tryz.func253 cfg_gmotion vce_gmotion [.p, .i, .v, .s] (listC motionR 254 14) [(138, PUpToS), (254, elemC motionR)] ⟨pupto_ok, pmotion_ok, trivial⟩ (by kernel_rfl) (fun _ _ _ h => h) ?_; intro x0 x1 x2 x3 w hp; refine ⟨[(4, listInv motionR)], vc_use ?Q ?h ?g⟩
 case h => intro O C s I b; conv => lhs; reduce
 dsimp only [std]; simp only [ctrOf, invOf, List.lookup, Nat.reduceBEq, Option.getD_some, Int.reduceOfNat, Int.reduceNegSucc]; obtain ⟨hs, rfl, hm⟩ : Small x3 ∧ x2 = .func (.func 254) #[] #[] ∧ x1 ≤ 1000000 := hp; simp only [PUpToS, rdC, upToF]; intro x4; refine ⟨fun ch ⟨e, h1, h2⟩ => h2 ▸ list_pan1 (gI_err h1) _, fun _ _ => hs, fun x5 x6 h1 => ?_⟩; have h1 := gI_ok h1; obtain ⟨i1, i2⟩ := list_init (R := motionR) h1 hs hm; refine ⟨i1, fun w _ => i2 w, fun m xs k sk hi => ⟨fun hk => ⟨trivial, fun a => ⟨fun ch ⟨e, g1, g2⟩ => g2 ▸ list_pan2 h1 hi hk g1 _, fun _ _ => hi.2.2.2.2.1, fun l0 l1 l2 l3 l4 l5 l6 l7 l8 l9 l10 l11 l12 l13 l14 l15 l16 l17 l18 l19 s' ⟨y, z, g, gl⟩ => ?_⟩⟩, fun hk A c => ?_⟩⟩
 ·obtain rfl : s' = z := by simpa using gl
  obtain ⟨n1, n2, n3, n4, n5⟩ := list_next (R := motionR) hi hk g (good_motion _ _ _ g hi.2.2.2.2.1) 160 (by decide) _; refine ⟨n1, n2, n3, n4, fun w ⟨⟨_, f⟩, ⟨x, z, e1, e2, e3⟩⟩ => ?_, n5 _, trivial⟩; cases e1; obtain ⟨l, q1, q2, q3⟩ := list_step (R := motionR) hi.1 f e2 e3; exact ⟨l, q1, (show xs ++ _ = _ from by rw [← q2]; exact congrArg (xs ++ ·) (by kernel_rfl)), q3⟩
 ·obtain ⟨f1, f2⟩ := list_fin (R := motionR) (A := A) (c := c) (a := x0) (fg := 254) (size := 14) h1 hi hk (.func (.func 254) #[] #[]); exact ⟨f1, fun w ⟨⟨_, f⟩, o⟩ => f2 f o⟩
def pKnown : ByteArray → Got KnownD := pBind pCert fun cert => pBind pBlock fun block => fun z => .ok (⟨cert, block⟩, z)
theorem good_known : Good pKnown := by unfold pKnown; exact good_bind good_cert fun _ => good_bind good_block fun _ => good_ok _
def knownR : Rdr KnownD := { us := fun x => [.i x.cert.h, .i x.cert.r, .i x.cert.s, .b x.cert.has, .i x.cert.b, .p x.cert.fa, .n x.cert.froms.length, .n x.cert.fc, .i x.block.header.c, .i x.block.header.h, .i x.block.header.p, .i x.block.header.t, .i x.block.header.g, .i x.block.header.s, .i x.block.header.r, .i x.block.header.b, .i x.block.header.o, .p x.block.ta, .n x.block.txs.length, .n x.block.tc, .p x.block.ga, .n x.block.guilts.length, .n x.block.gc], cells := fun x => x.cells, strip := fun x => { x with cert := certR.strip x.cert, block := blockR.strip x.block }, held := fun w x => x.held w w.heap.size, p := pKnown }
def cfg_pknown : Cfg := { con := [(78, 0), (192, 0)], lents := [(78, [(0, 208)]), (192, [(0, 208)])], mine := [(0, 208)], pans := [78, 192] }
def vcd_pknown : { v : VC // vcOf Tryz.prog cfg_pknown 256 = v } := by refine ⟨?v, ?h⟩; rotate_left; conv => lhs; reduce
theorem vce_pknown : vcOf Tryz.prog cfg_pknown 256 = vcd_pknown.1 := vcd_pknown.2
set_option linter.unusedVariables false in
theorem pknown_ok : KeepsL Tryz.prog 256 (elemC knownR) cfg_pknown.mine := by
 refine keepsL_v Tryz.func256 cfg_pknown vce_pknown [.p, .s] (elemC knownR) [(78, (elemC certR)), (192, (elemC blockR))] ⟨pcert_ok, pblock_ok, trivial⟩ (by kernel_rfl) (fun _ _ _ h => h) ?_; intro x0 s0 w hp; refine ⟨[], vc_use ?Q ?h ?g⟩
 case h => intro O C s I b; conv => lhs; reduce
 dsimp only [std]; simp only [ctrOf, invOf, List.lookup, Nat.reduceBEq, Option.getD_some, Int.reduceOfNat, Int.reduceNegSucc]; have hs0 : Small s0 := hp; have bad : ∀ e, pKnown s0 = .error e → (elemC knownR).pan [.p x0, .s s0] (stopCh e) := fun e h => ⟨e, h, rfl⟩
 intro a_cert; refine ⟨fun ch ⟨e, g, hc⟩ => hc ▸ bad e (by simp only [pKnown, pBind, show pCert s0 = _ from g]), fun _ _ => hs0, fun l_cert_0 l_cert_1 l_cert_2 l_cert_3 l_cert_4 l_cert_5 l_cert_6 l_cert_7 s1 ⟨y_cert, z_cert, g_cert, gl⟩ => ?_⟩; obtain rfl : s1 = z_cert := by simpa using gl
 replace g_cert : pCert s0 = .ok (y_cert, s1) := g_cert; have hs1 : Small s1 := good_cert _ _ _ g_cert hs0; intro a_block; refine ⟨fun ch ⟨e, g, hc⟩ => hc ▸ bad e (by simp only [pKnown, pBind, g_cert, show pBlock s1 = _ from g]), fun _ _ => hs1, fun l_block_0 l_block_1 l_block_2 l_block_3 l_block_4 l_block_5 l_block_6 l_block_7 l_block_8 l_block_9 l_block_10 l_block_11 l_block_12 l_block_13 l_block_14 s2 ⟨y_block, z_block, g_block, gl⟩ => ?_⟩; obtain rfl : s2 = z_block := by simpa using gl
 replace g_block : pBlock s1 = .ok (y_block, s2) := g_block; have hs2 : Small s2 := good_block _ _ _ g_block hs1; refine ⟨⟨⟨y_cert, y_block⟩, s2, by simp only [knownR, pKnown, pBind, g_cert, g_block], rfl⟩, fun w hw => ?_⟩; obtain ⟨⟨_, ⟨x_cert, w_cert, e_cert, p_cert, h_cert⟩⟩, ⟨x_block, w_block, e_block, p_block, h_block⟩⟩ := hw; cases e_cert; replace p_cert : pCert _ = .ok (_, _) := p_cert; cases e_block; replace p_block : pBlock _ = .ok (_, _) := p_block; exact ⟨⟨x_cert, x_block⟩, s2, rfl, by simp only [knownR, pKnown, pBind, p_cert, p_block]; first | done | rfl | simp [blockR, certR], ⟨h_cert, h_block⟩⟩
def cfg_gknown : Cfg := { con := [(138, 0), (256, 0)], loops := [(4, { slots := [8, 13], blks := [0], rows := [8], extra := [.var 5, .var 6] })], rows := [(8, 64)], lents := [(138, [(0, 208)]), (256, [(0, 208)])], mine := [(0, 208)], pans := [138, 256], fns := [(18, 256)] }
def vcd_gknown : { v : VC // vcOf Tryz.prog cfg_gknown 255 = v } := by refine ⟨?v, ?h⟩; rotate_left; conv => lhs; reduce
theorem vce_gknown : vcOf Tryz.prog cfg_gknown 255 = vcd_gknown.1 := vcd_gknown.2
theorem getsknown_ok : KeepsL Tryz.prog 255 (listC knownR 256 17) cfg_gknown.mine := by
 refine keepsL_v Tryz.func255 cfg_gknown vce_gknown [.p, .i, .v, .s] (listC knownR 256 17) [(138, PUpToS), (256, elemC knownR)] ⟨pupto_ok, pknown_ok, trivial⟩ (by kernel_rfl) (fun _ _ _ h => h) ?_; intro x0 x1 x2 x3 w hp; refine ⟨[(4, listInv knownR)], vc_use ?Q ?h ?g⟩
 case h => intro O C s I b; conv => lhs; reduce
 dsimp only [std]; simp only [ctrOf, invOf, List.lookup, Nat.reduceBEq, Option.getD_some, Int.reduceOfNat, Int.reduceNegSucc]; obtain ⟨hs, rfl, hm⟩ : Small x3 ∧ x2 = .func (.func 256) #[] #[] ∧ x1 ≤ 1000000 := hp; simp only [PUpToS, rdC, upToF]; intro x4; refine ⟨fun ch ⟨e, h1, h2⟩ => h2 ▸ list_pan1 (gI_err h1) _, fun _ _ => hs, fun x5 x6 h1 => ?_⟩; have h1 := gI_ok h1; obtain ⟨i1, i2⟩ := list_init (R := knownR) h1 hs hm; refine ⟨i1, fun w _ => i2 w, fun m xs k sk hi => ⟨fun hk => ⟨trivial, fun a => ⟨fun ch ⟨e, g1, g2⟩ => g2 ▸ list_pan2 h1 hi hk g1 _, fun _ _ => hi.2.2.2.2.1, fun l0 l1 l2 l3 l4 l5 l6 l7 l8 l9 l10 l11 l12 l13 l14 l15 l16 l17 l18 l19 l20 l21 l22 s' ⟨y, z, g, gl⟩ => ?_⟩⟩, fun hk A c => ?_⟩⟩
 ·obtain rfl : s' = z := by simpa using gl
  obtain ⟨n1, n2, n3, n4, n5⟩ := list_next (R := knownR) hi hk g (good_known _ _ _ g hi.2.2.2.2.1) 184 (by decide) _; refine ⟨n1, n2, n3, n4, fun w ⟨⟨_, f⟩, ⟨x, z, e1, e2, e3⟩⟩ => ?_, n5 _, trivial⟩; cases e1; obtain ⟨l, q1, q2, q3⟩ := list_step (R := knownR) hi.1 f e2 e3; exact ⟨l, q1, (show xs ++ _ = _ from by rw [← q2]; exact congrArg (xs ++ ·) (by kernel_rfl)), q3⟩
 ·obtain ⟨f1, f2⟩ := list_fin (R := knownR) (A := A) (c := c) (a := x0) (fg := 256) (size := 17) h1 hi hk (.func (.func 256) #[] #[]); exact ⟨f1, fun w ⟨⟨_, f⟩, o⟩ => f2 f o⟩
def pMessage : ByteArray → Got MessageD := pBind pNum fun f => pBind pNum fun t => pBind pNum fun h => pBind (pList 512 pVote) fun votes => pBind (pList 2 pMotion) fun motions => pBind (pList 2 pKnown) fun knowns => pBind (pList 16 pTx) fun txs => fun z => .ok (⟨f, t, h, votes, none, 0, motions, none, 0, knowns, none, 0, txs, none, 0⟩, z)
def messageR : Rdr MessageD := { us := fun x => [.i x.f, .i x.t, .i x.h, .p x.va, .n x.votes.length, .n x.vc, .p x.ma, .n x.motions.length, .n x.mc, .p x.ka, .n x.knowns.length, .n x.kc, .p x.xa, .n x.txs.length, .n x.xc], cells := fun x => x.cells, strip := fun x => { x with va := none, vc := 0, motions := x.motions.map motionR.strip, ma := none, mc := 0, knowns := x.knowns.map knownR.strip, ka := none, kc := 0, txs := x.txs.map txR.strip, xa := none, xc := 0 }, held := fun w x => x.held w w.heap.size, p := pMessage }
def cfg_pmessage : Cfg := { con := [(58, 0), (252, 0), (253, 0), (255, 0), (247, 0)], lents := [(58, [(0, 208)]), (252, [(0, 208)]), (253, [(0, 208)]), (255, [(0, 208)]), (247, [(0, 208)])], mine := [(0, 208)], pans := [58, 252, 253, 255, 247] }
def vcd_pmessage : { v : VC // vcOf Tryz.prog cfg_pmessage 198 = v } := by refine ⟨?v, ?h⟩; rotate_left; conv => lhs; reduce
theorem vce_pmessage : vcOf Tryz.prog cfg_pmessage 198 = vcd_pmessage.1 := vcd_pmessage.2
set_option linter.unusedVariables false in
theorem pmessage_ok : KeepsL Tryz.prog 198 (elemC messageR) cfg_pmessage.mine := by
 refine keepsL_v Tryz.func198 cfg_pmessage vce_pmessage [.p, .s] (elemC messageR) [(58, PNumS), (252, (listC voteR 72 6)), (253, (listC motionR 254 14)), (255, (listC knownR 256 17)), (247, (listC txR 102 11))] ⟨pnum_ok, getsvote_ok, getsmotion_ok, getsknown_ok, getstx_ok, trivial⟩ (by kernel_rfl) (fun _ _ _ h => h) ?_; intro x0 s0 w hp; refine ⟨[], vc_use ?Q ?h ?g⟩
 case h => intro O C s I b; conv => lhs; reduce
 dsimp only [std]; simp only [ctrOf, invOf, List.lookup, Nat.reduceBEq, Option.getD_some, Int.reduceOfNat, Int.reduceNegSucc]; have hs0 : Small s0 := hp; have bad : ∀ e, pMessage s0 = .error e → (elemC messageR).pan [.p x0, .s s0] (stopCh e) := fun e h => ⟨e, h, rfl⟩
 simp only [rdC, PNumS, numF]; intro a_f; refine ⟨fun ch ⟨e, g, hc⟩ => hc ▸ bad e (by simp only [pMessage, pBind, gI_err g]), fun _ _ => hs0, fun f s1 g_f => ?_⟩; replace g_f := gI_ok g_f; have hs1 : Small s1 := good_num _ _ _ g_f hs0; intro a_t; refine ⟨fun ch ⟨e, g, hc⟩ => hc ▸ bad e (by simp only [pMessage, pBind, g_f, gI_err g]), fun _ _ => hs1, fun t s2 g_t => ?_⟩; replace g_t := gI_ok g_t; have hs2 : Small s2 := good_num _ _ _ g_t hs1; intro a_h; refine ⟨fun ch ⟨e, g, hc⟩ => hc ▸ bad e (by simp only [pMessage, pBind, g_f, g_t, gI_err g]), fun _ _ => hs2, fun h s3 g_h => ?_⟩; replace g_h := gI_ok g_h; have hs3 : Small s3 := good_num _ _ _ g_h hs2; intro a_votes; refine ⟨fun ch ⟨e, g, hc⟩ => hc ▸ bad e (by simp only [pMessage, pBind, g_f, g_t, g_h, show pList 512 pVote s3 = _ from g]), fun _ _ => ⟨hs3, rfl, by decide⟩, fun a1_votes n_votes c1_votes s4 ⟨y_votes, g_votes, _⟩ => ?_⟩; replace g_votes : pList 512 pVote s3 = .ok (y_votes, s4) := g_votes; have hs4 : Small s4 := good_list _ good_vote _ _ _ g_votes hs3; intro a_motions; refine ⟨fun ch ⟨e, g, hc⟩ => hc ▸ bad e (by simp only [pMessage, pBind, g_f, g_t, g_h, g_votes, show pList 2 pMotion s4 = _ from g]), fun _ _ => ⟨hs4, rfl, by decide⟩, fun a1_motions n_motions c1_motions s5 ⟨y_motions, g_motions, _⟩ => ?_⟩; replace g_motions : pList 2 pMotion s4 = .ok (y_motions, s5) := g_motions; have hs5 : Small s5 := good_list _ good_motion _ _ _ g_motions hs4; intro a_knowns; refine ⟨fun ch ⟨e, g, hc⟩ => hc ▸ bad e (by simp only [pMessage, pBind, g_f, g_t, g_h, g_votes, g_motions, show pList 2 pKnown s5 = _ from g]), fun _ _ => ⟨hs5, rfl, by decide⟩, fun a1_knowns n_knowns c1_knowns s6 ⟨y_knowns, g_knowns, _⟩ => ?_⟩; replace g_knowns : pList 2 pKnown s5 = .ok (y_knowns, s6) := g_knowns; have hs6 : Small s6 := good_list _ good_known _ _ _ g_knowns hs5; intro a_txs
 refine ⟨fun ch ⟨e, g, hc⟩ => hc ▸ bad e (by simp only [pMessage, pBind, g_f, g_t, g_h, g_votes, g_motions, g_knowns, show pList 16 pTx s6 = _ from g]), fun _ _ => ⟨hs6, rfl, by decide⟩, fun a1_txs n_txs c1_txs s7 ⟨y_txs, g_txs, _⟩ => ?_⟩; replace g_txs : pList 16 pTx s6 = .ok (y_txs, s7) := g_txs; have hs7 : Small s7 := good_list _ good_tx _ _ _ g_txs hs6; refine ⟨⟨⟨f, t, h, y_votes, none, 0, y_motions, none, 0, y_knowns, none, 0, y_txs, none, 0⟩, s7, by simp only [messageR, pMessage, pBind, g_f, g_t, g_h, g_votes, g_motions, g_knowns, g_txs], rfl⟩, fun w hw => ?_⟩; obtain ⟨⟨⟨⟨⟨⟨⟨_, _⟩, _⟩, _⟩, ⟨l_votes, q_votes, m_votes, r_votes, h_votes⟩⟩, ⟨l_motions, q_motions, m_motions, r_motions, h_motions⟩⟩, ⟨l_knowns, q_knowns, m_knowns, r_knowns, h_knowns⟩⟩, ⟨l_txs, q_txs, m_txs, r_txs, h_txs⟩⟩ := hw; subst m_votes; replace q_votes : pList 512 pVote _ = .ok (_, _) := q_votes; subst m_motions; replace q_motions : pList 2 pMotion _ = .ok (_, _) := q_motions; subst m_knowns; replace q_knowns : pList 2 pKnown _ = .ok (_, _) := q_knowns; subst m_txs; replace q_txs : pList 16 pTx _ = .ok (_, _) := q_txs; exact ⟨⟨f, t, h, l_votes, a1_votes, c1_votes, l_motions, a1_motions, c1_motions, l_knowns, a1_knowns, c1_knowns, l_txs, a1_txs, c1_txs⟩, s7, rfl, by simp only [messageR, pMessage, pBind, g_f, g_t, g_h, q_votes, q_motions, q_knowns, q_txs]; first | done | rfl | simp [knownR, motionR, txR, voteR], ⟨r_votes, r_motions, r_knowns, r_txs, ⟨short_of q_votes, short_of q_motions, short_of q_knowns, short_of q_txs⟩, h_votes, h_motions, h_knowns, h_txs⟩⟩
def voteZ : VoteD := ⟨0, 0, 0, false, 0, 0⟩
def headerZ : HeaderD := ⟨0, 0, 0, 0, 0, 0, 0, 0, 0⟩
def blockZ : BlockD := ⟨headerZ, [], none, 0, [], none, 0⟩
def certZ : CertD := ⟨0, 0, 0, false, 0, [], none, 0⟩
def motionZ : MotionD := ⟨0, 0, blockZ, [], none, 0⟩
def knownZ : KnownD := ⟨certZ, blockZ⟩
theorem ml0 : (0 : Nat) ≤ maxLen := Nat.zero_le _
theorem voteZ_ok : voteZ.ok := by unfold VoteD.ok voteZ; decide
theorem headerZ_ok : headerZ.ok := by unfold HeaderD.ok headerZ; decide
theorem blockZ_held (w : World) (B : Nat) : blockZ.held w B := ⟨headerZ_ok, Rd.nil _ _ _ _, Rd.nil _ _ _ _, ⟨ml0, ml0⟩, fun _ h => (nomatch h), fun _ h => (nomatch h)⟩
theorem certZ_held (w : World) (B : Nat) : certZ.held w B := ⟨by unfold certZ; decide, Rd.nil _ _ _ _, ml0⟩
theorem motionZ_held (w : World) (B : Nat) : motionZ.held w B := ⟨blockZ_held w B, Rd.nil _ _ _ _, ml0, fun _ h => (nomatch h)⟩
theorem knownZ_held (w : World) (B : Nat) : knownZ.held w B := ⟨certZ_held w B, blockZ_held w B⟩
def pRecord : ByteArray → Got RecordD := pBind pNum fun k => if k = 1 then pBind pVote fun v => fun z => .ok (⟨k, v, motionZ, knownZ⟩, z) else if k = 2 then pBind pMotion fun m => fun z => .ok (⟨k, voteZ, m, knownZ⟩, z) else if k = 3 ∨ k = 4 then pBind pKnown fun n => fun z => .ok (⟨k, voteZ, motionZ, n⟩, z) else fun z => .ok (⟨k, voteZ, motionZ, knownZ⟩, z)
def recordR : Rdr RecordD := { us := fun x => [.i x.k, .i x.vote.h, .i x.vote.r, .i x.vote.s, .b x.vote.has, .i x.vote.b, .i x.vote.f, .i x.motion.r, .i x.motion.f, .i x.motion.block.header.c, .i x.motion.block.header.h, .i x.motion.block.header.p, .i x.motion.block.header.t, .i x.motion.block.header.g, .i x.motion.block.header.s, .i x.motion.block.header.r, .i x.motion.block.header.b, .i x.motion.block.header.o, .p x.motion.block.ta, .n x.motion.block.txs.length, .n x.motion.block.tc, .p x.motion.block.ga, .n x.motion.block.guilts.length, .n x.motion.block.gc, .p x.motion.ba, .n x.motion.basis.length, .n x.motion.bc, .i x.known.cert.h, .i x.known.cert.r, .i x.known.cert.s, .b x.known.cert.has, .i x.known.cert.b, .p x.known.cert.fa, .n x.known.cert.froms.length, .n x.known.cert.fc, .i x.known.block.header.c, .i x.known.block.header.h, .i x.known.block.header.p, .i x.known.block.header.t, .i x.known.block.header.g, .i x.known.block.header.s, .i x.known.block.header.r, .i x.known.block.header.b, .i x.known.block.header.o, .p x.known.block.ta, .n x.known.block.txs.length, .n x.known.block.tc, .p x.known.block.ga, .n x.known.block.guilts.length, .n x.known.block.gc], cells := fun x => x.cells, strip := fun x => { x with motion := motionR.strip x.motion, known := knownR.strip x.known }, held := fun w x => x.held w w.heap.size, p := pRecord }
def cfg_precord : Cfg := { con := [(58, 0), (72, 0), (254, 0), (256, 0)], lents := [(58, [(0, 208)]), (72, [(0, 208)]), (254, [(0, 208)]), (256, [(0, 208)])], mine := [(0, 208)], pans := [58, 72, 254, 256] }
def vcd_precord : { v : VC // vcOf Tryz.prog cfg_precord 204 = v } := by refine ⟨?v, ?h⟩; rotate_left; conv => lhs; reduce
theorem vce_precord : vcOf Tryz.prog cfg_precord 204 = vcd_precord.1 := vcd_precord.2
theorem precord_ok : KeepsL Tryz.prog 204 (elemC recordR) cfg_precord.mine := by
 refine keepsL_v Tryz.func204 cfg_precord vce_precord [.p, .s] (elemC recordR) [(58, PNumS), (72, (elemC voteR)), (254, (elemC motionR)), (256, (elemC knownR))] ⟨pnum_ok, pvote_ok, pmotion_ok, pknown_ok, trivial⟩ (by kernel_rfl) (fun _ _ _ h => h) ?_; intro x0 s0 w hp; refine ⟨[], vc_use ?Q ?h ?g⟩
 case h => intro O C s I b; conv => lhs; reduce
 dsimp only [std]; simp only [ctrOf, invOf, List.lookup, Nat.reduceBEq, Option.getD_some, Int.reduceOfNat, Int.reduceNegSucc]; have hs0 : Small s0 := hp; have bad : ∀ e, pRecord s0 = .error e → (elemC recordR).pan [.p x0, .s s0] (stopCh e) := fun e h => ⟨e, h, rfl⟩
 simp only [rdC, PNumS, numF]; intro a_k; refine ⟨fun ch ⟨e, g, hc⟩ => hc ▸ bad e (by simp only [pRecord, pBind, gI_err g]), fun _ _ => hs0, fun k s1 g_k => ?_⟩; replace g_k := gI_ok g_k; have hs1 : Small s1 := good_num _ _ _ g_k hs0; refine ⟨fun h1 => ?_, fun h1 => ⟨fun h2 => ?_, fun h2 => ⟨fun h3 => ?_, fun h3 => ⟨fun h4 => ?_, fun h4 => ?_⟩⟩⟩⟩
 ·intro a_vote; refine ⟨fun ch ⟨e, g, hc⟩ => hc ▸ bad e (by simp only [pRecord, pBind, g_k, if_pos h1, show pVote s1 = _ from g]), fun _ _ => hs1, fun l_0 l_1 l_2 l_3 l_4 l_5 s2 ⟨y, z, g, gl⟩ => ?_⟩; obtain rfl : s2 = z := by simpa using gl
  replace g : pVote s1 = .ok (y, s2) := g; refine ⟨⟨⟨k, y, motionZ, knownZ⟩, s2, by simp only [recordR, pRecord, pBind, g_k, if_pos h1, g], rfl⟩, fun w hw => ?_⟩; obtain ⟨⟨_, _⟩, ⟨x, z, e, p, h⟩⟩ := hw; cases e; replace p : pVote _ = .ok (_, _) := p; exact ⟨⟨k, x, motionZ, knownZ⟩, s2, rfl, by simp only [recordR, pRecord, pBind, g_k, if_pos h1, p]; first | done | rfl | simp [voteR], ⟨h, motionZ_held _ _, knownZ_held _ _⟩⟩
 ·intro a_motion; refine ⟨fun ch ⟨e, g, hc⟩ => hc ▸ bad e (by simp only [pRecord, pBind, g_k, if_neg h1, if_pos h2, show pMotion s1 = _ from g]), fun _ _ => hs1, fun l_0 l_1 l_2 l_3 l_4 l_5 l_6 l_7 l_8 l_9 l_10 l_11 l_12 l_13 l_14 l_15 l_16 l_17 l_18 l_19 s2 ⟨y, z, g, gl⟩ => ?_⟩; obtain rfl : s2 = z := by simpa using gl
  replace g : pMotion s1 = .ok (y, s2) := g; refine ⟨⟨⟨k, voteZ, y, knownZ⟩, s2, by simp only [recordR, pRecord, pBind, g_k, if_neg h1, if_pos h2, g], rfl⟩, fun w hw => ?_⟩; obtain ⟨⟨_, _⟩, ⟨x, z, e, p, h⟩⟩ := hw; cases e; replace p : pMotion _ = .ok (_, _) := p; exact ⟨⟨k, voteZ, x, knownZ⟩, s2, rfl, by simp only [recordR, pRecord, pBind, g_k, if_neg h1, if_pos h2, p]; first | done | rfl | simp [motionR], ⟨voteZ_ok, h, knownZ_held _ _⟩⟩
 ·intro a_known; refine ⟨fun ch ⟨e, g, hc⟩ => hc ▸ bad e (by simp only [pRecord, pBind, g_k, if_neg h1, if_neg h2, if_pos (Or.inl h3 : k = 3 ∨ k = 4), show pKnown s1 = _ from g]), fun _ _ => hs1, fun l_0 l_1 l_2 l_3 l_4 l_5 l_6 l_7 l_8 l_9 l_10 l_11 l_12 l_13 l_14 l_15 l_16 l_17 l_18 l_19 l_20 l_21 l_22 s2 ⟨y, z, g, gl⟩ => ?_⟩; obtain rfl : s2 = z := by simpa using gl
  replace g : pKnown s1 = .ok (y, s2) := g; refine ⟨⟨⟨k, voteZ, motionZ, y⟩, s2, by simp only [recordR, pRecord, pBind, g_k, if_neg h1, if_neg h2, if_pos (Or.inl h3 : k = 3 ∨ k = 4), g], rfl⟩, fun w hw => ?_⟩; obtain ⟨⟨_, _⟩, ⟨x, z, e, p, h⟩⟩ := hw; cases e; replace p : pKnown _ = .ok (_, _) := p; exact ⟨⟨k, voteZ, motionZ, x⟩, s2, rfl, by simp only [recordR, pRecord, pBind, g_k, if_neg h1, if_neg h2, if_pos (Or.inl h3 : k = 3 ∨ k = 4), p]; first | done | rfl | simp [knownR], ⟨voteZ_ok, motionZ_held _ _, h⟩⟩
 ·intro a_known; refine ⟨fun ch ⟨e, g, hc⟩ => hc ▸ bad e (by simp only [pRecord, pBind, g_k, if_neg h1, if_neg h2, if_pos (Or.inr h4 : k = 3 ∨ k = 4), show pKnown s1 = _ from g]), fun _ _ => hs1, fun l_0 l_1 l_2 l_3 l_4 l_5 l_6 l_7 l_8 l_9 l_10 l_11 l_12 l_13 l_14 l_15 l_16 l_17 l_18 l_19 l_20 l_21 l_22 s2 ⟨y, z, g, gl⟩ => ?_⟩; obtain rfl : s2 = z := by simpa using gl
  replace g : pKnown s1 = .ok (y, s2) := g; refine ⟨⟨⟨k, voteZ, motionZ, y⟩, s2, by simp only [recordR, pRecord, pBind, g_k, if_neg h1, if_neg h2, if_pos (Or.inr h4 : k = 3 ∨ k = 4), g], rfl⟩, fun w hw => ?_⟩; obtain ⟨⟨_, _⟩, ⟨x, z, e, p, h⟩⟩ := hw; cases e; replace p : pKnown _ = .ok (_, _) := p; exact ⟨⟨k, voteZ, motionZ, x⟩, s2, rfl, by simp only [recordR, pRecord, pBind, g_k, if_neg h1, if_neg h2, if_pos (Or.inr h4 : k = 3 ∨ k = 4), p]; first | done | rfl | simp [knownR], ⟨voteZ_ok, motionZ_held _ _, h⟩⟩
 ·have h34 : ¬ (k = 3 ∨ k = 4) := fun h => h.elim h3 h4
  refine ⟨⟨⟨k, voteZ, motionZ, knownZ⟩, s1, by simp only [recordR, pRecord, pBind, g_k, if_neg h1, if_neg h2, if_neg h34], rfl⟩, fun w hw => ?_⟩; exact ⟨⟨k, voteZ, motionZ, knownZ⟩, s1, rfl, by simp only [recordR, pRecord, pBind, g_k, if_neg h1, if_neg h2, if_neg h34]; rfl, ⟨voteZ_ok, motionZ_held _ _, knownZ_held _ _⟩⟩
theorem Reads.bind {α β : Type} {p : ByteArray → Got α} {f : α → ByteArray → Got β} {q q1 q2 : Except Int ByteArray} {v : α} {u : β} (h : Reads q p q1 v) (g : Reads q1 (f v) q2 u) : Reads q (pBind p f) q2 u := (bind_step h).trans g
theorem pRep_mono {α : Type} {p : ByteArray → Got α} : ∀ {k n : Nat} {s : ByteArray} {e : Int}, pRep p k s = .error e → k ≤ n → pRep p n s = .error e
 | 0, _, _, _, h, _ => by simp [pRep] at h
 | k + 1, 0, _, _, _, h => absurd h (by omega)
 | k + 1, n + 1, s, e, h, hk => by
  unfold pRep at h ⊢
  split at h
  ·exact h
  ·next x s1 hp =>
   split at h
   ·next e' hr => rw [pRep_mono hr (by omega)]; exact h
   ·cases h
theorem rep_zero {α : Type} (p : ByteArray → Got α) (q : Except Int ByteArray) : Reads q (pRep p 0) q [] := by cases q <;> rfl
theorem rep_snoc {α : Type} {p : ByteArray → Got α} {q0 q q' : Except Int ByteArray} {k : Nat} {l : List α} {v : α} (h : Reads q0 (pRep p k) q l) (g : Reads q p q' v) : Reads q0 (pRep p (k + 1)) q' (l ++ [v]) := by
 unfold Reads at *
 rcases q0 with c0 | s0 <;> rcases q with c | s <;> rcases q' with c' | s' <;> simp only [Except.bind, Except.map] at *
 ·cases h; cases g; rfl
 ·cases g
 ·cases h
 ·cases h
 ·cases g; exact pRep_mono h (by omega)
 ·cases g
 ·exact pRep_err h g (by omega)
 ·exact pRep_snoc h g
theorem rep_stop {α : Type} {p : ByteArray → Got α} {q0 : Except Int ByteArray} {k n : Nat} {l : List α} {c : Int} (h : Reads q0 (pRep p k) (.error c) l) (hk : k ≤ n) : Reads q0 (pRep p n) (.error c) l := by
 unfold Reads at *
 rcases q0 with c0 | s0 <;> simp only [Except.bind, Except.map] at *
 ·exact h
 ·exact pRep_mono h hk
theorem pList_eq {α : Type} (most : Int) (p : ByteArray → Got α) : pList most p = pBind (pUpTo most) fun n => pRep p n.toNat := by
 funext s; unfold pList pBind; cases pUpTo most s <;> rfl
theorem Reads.ok {α : Type} (v : α) (q : Except Int ByteArray) : Reads q (fun z => .ok (v, z)) q v := by cases q <;> rfl
def refC {D : Type} (R : Rdr D) (lim : D → Prop) : Ctr where
 pre us _ := match us with
  | [.p _, .s b, .i a, .i _] => okR b a
  | _ => False
 post us os := match us with
  | [.p _, .s b, .i a, .i e] => ∃ y a' e', os.reverse.take 3 = [.i e', .i a', .s b] ∧ okR b a' ∧ Reads (Rel b a e) R.p (Rel b a' e') y
  | _ => False
 fact us os w := match us with
  | [.p _, .s b, .i a, .i e] => ∃ x a' e', os = R.us x ++ [.s b, .i a', .i e'] ∧ Reads (Rel b a e) R.p (Rel b a' e') (R.strip x) ∧ lim x ∧ R.held w x
  | _ => False
def rcore {D : Type} (R : Rdr D) (m : Nat) (k : Int) (b : ByteArray) (a e n : Int) (b0 : ByteArray) (a0 e0 : Int) : Prop := k = m ∧ (m : Int) ≤ n ∧ b = b0 ∧ okR b a ∧ ∃ ys : List D, Reads (Rel b0 a0 e0) (pRep R.p m) (Rel b a e) ys
def rfact {D : Type} (R : Rdr D) (lim : D → Prop) (w : World) (m : Nat) (xs : List Value) (b : ByteArray) (a e : Int) (b0 : ByteArray) (a0 e0 : Int) : Prop := ∃ l : List D, l.length = m ∧ xs = l.flatMap R.cells ∧ Reads (Rel b0 a0 e0) (pRep R.p m) (Rel b a e) (l.map R.strip) ∧ ∀ x ∈ l, R.held w x ∧ lim x
def rloop {D : Type} (R : Rdr D) (lim : D → Prop) (j : Nat) : Inv where
 inv us := match us with
  | .n m :: .l _ :: .i k :: .s b :: .i a :: .i e :: r => r.take j = r.drop (j + 4) ∧ match r.drop j with
   | .i n :: .s b0 :: .i a0 :: .i e0 :: _ => rcore R m k b a e n b0 a0 e0
   | _ => False
  | _ => False
 mea us := match us with
  | .n _ :: .l _ :: .i k :: .s _ :: .i _ :: .i _ :: r => match r.drop j with
   | .i n :: _ => (n - k).toNat
   | _ => 0
  | _ => 0
 fact us w := match us with
  | .n m :: .l xs :: .i _ :: .s b :: .i a :: .i e :: r => match r.drop j with
   | .i _ :: .s b0 :: .i a0 :: .i e0 :: _ => rfact R lim w m xs b a e b0 a0 e0
   | _ => False
  | _ => False
section
variable {D : Type} {R : Rdr D} {lim : D → Prop} {m : Nat} {k n a a1 e e1 a0 e0 : Int} {b b0 : ByteArray} {xs : List Value} {w : World}
theorem rc_init (hn : 0 ≤ n) (hb : okR b a) : rcore R 0 0 b a e n b a e := ⟨rfl, hn, rfl, hb, [], rep_zero _ _⟩
theorem rf_init : rfact R lim w 0 [] b a e b a e := ⟨[], rfl, rfl, rep_zero _ _, fun _ h => absurd h (by simp)⟩
theorem rc_ok (h : rcore R m k b a e n b0 a0 e0) : okR b a := h.2.2.2.1
theorem rc_b (h : rcore R m k b a e n b0 a0 e0) : b = b0 := h.2.2.1
theorem rc_next {y : D} (h : rcore R m k b a e n b0 a0 e0) (hk : k < n) (ho : okR b a1) (g : Reads (Rel b a e) R.p (Rel b a1 e1) y) : rcore R (m + 1) (k + 1) b a1 e1 n b0 a0 e0 := by
 obtain ⟨h1, h2, h3, h4, l, h5⟩ := h; exact ⟨by omega, by omega, h3, ho, _, rep_snoc h5 g⟩
theorem rc_room (h : rcore R m k b a e n b0 a0 e0) (hk : k < n) (hn : n ≤ 1000000) (q : Nat) (hq : q ≤ 100000) : ((m + 1 : Nat) : Int) ≤ 9223372036854775807 ∧ (((m + 1) * q : Nat) : Int) ≤ 140737488355328 ∧ (-9223372036854775808 ≤ k + 1 ∧ k + 1 ≤ 9223372036854775807) := by
 obtain ⟨h1, h2, h3, h4, l, h5⟩ := h; have hm : m + 1 ≤ 1000001 := by omega
 have := Nat.mul_le_mul hm hq; exact ⟨by omega, by omega, by omega, by omega⟩
theorem rf_next {x : D} (h : rfact R lim w m xs b a e b0 a0 e0) (g : Reads (Rel b a e) R.p (Rel b a1 e1) (R.strip x)) (h1 : R.held w x) (h2 : lim x) : rfact R lim w (m + 1) (xs ++ R.cells x) b a1 e1 b0 a0 e0 := by
 obtain ⟨l, i1, i2, i3, i4⟩ := h; refine ⟨l ++ [x], by simp [i1], by rw [i2]; simp, ?_, ?_⟩
 ·rw [List.map_append]; exact rep_snoc i3 g
 ·intro y hy
  rcases List.mem_append.1 hy with hy | hy
  ·exact i4 y hy
  ·have : y = x := by simpa using hy
   rw [this]; exact ⟨h1, h2⟩
theorem rc_end (h : rcore R m k b a e n b0 a0 e0) (hk : k < n → ¬ e = 0) : ∃ ys : List D, Reads (Rel b0 a0 e0) (pRep R.p n.toNat) (Rel b a e) ys := by
 obtain ⟨h1, h2, h3, h4, l, h5⟩ := h; refine ⟨l, ?_⟩
 by_cases hl : k < n
 ·rw [Rel.bad (hk hl)] at h5 ⊢
  exact rep_stop h5 (by omega)
 ·rw [show n.toNat = m by omega]; exact h5
theorem rf_end (h : rcore R m k b a e n b0 a0 e0) (hk : k < n → ¬ e = 0) (hf : rfact R lim w m xs b a e b0 a0 e0) : ∃ l : List D, l.length = m ∧ (m : Int) ≤ n ∧ xs = l.flatMap R.cells ∧ Reads (Rel b0 a0 e0) (pRep R.p n.toNat) (Rel b a e) (l.map R.strip) ∧ ∀ x ∈ l, R.held w x ∧ lim x := by
 obtain ⟨h1, h2, h3, h4, _, _⟩ := h; obtain ⟨l, i1, i2, i3, i4⟩ := hf; refine ⟨l, i1, h2, i2, ?_, i4⟩
 by_cases hl : k < n
 ·rw [Rel.bad (hk hl)] at i3 ⊢
  exact rep_stop i3 (by omega)
 ·rw [show n.toNat = m by omega]; exact i3
end
theorem sumL_le {α : Type} {f : α → Nat} {c : Nat} : ∀ {l : List α}, (∀ x ∈ l, f x ≤ c) → sumL f l ≤ c * l.length
 | [], _ => Nat.zero_le _
 | x :: l, h => by
  have h1 := h x (by simp); have h2 := sumL_le (l := l) fun y hy => h y (by simp [hy])
  rw [sumL_cons, List.length_cons, Nat.mul_succ]; omega
def lim_num : Int → Prop := fun _ => True
def lim_turn : TurnD → Prop := fun _ => True
def lim_seat : Seat → Prop := fun _ => True
def lim_note : NoteD → Prop := fun _ => True
def lim_vote : VoteD → Prop := fun _ => True
def cfg_rvote : Cfg := { con := [(67, 0), (155, 0), (156, 0)], lents := [(67, [(0, 122)]), (155, [(0, 122)]), (156, [(0, 122)])], mine := [(0, 122)] }
def vcd_rvote : { v : VC // vcOf Tryz.prog cfg_rvote 74 = v } := by refine ⟨?v, ?h⟩; rotate_left; conv => lhs; reduce
theorem vce_rvote : vcOf Tryz.prog cfg_rvote 74 = vcd_rvote.1 := vcd_rvote.2
set_option linter.unusedVariables false in
theorem rvote_ok : KeepsL Tryz.prog 74 (refC voteR lim_vote) cfg_rvote.mine := by
 refine keepsL_v Tryz.func74 cfg_rvote vce_rvote [.p, .s, .i, .i] (refC voteR lim_vote) [(67, RNumS), (155, RFlagS), (156, RDigS)] ⟨rnum_ok, rflag_ok, rdig_ok, trivial⟩ (by kernel_rfl) (fun _ _ _ h => h) ?_; intro x0 z a0 e0 w hp; refine ⟨[], vc_use ?Q ?h ?g⟩
 case h => intro O C s I b; conv => lhs; reduce
 dsimp only [std]; simp only [ctrOf, invOf, List.lookup, Nat.reduceBEq, Option.getD_some, Int.reduceOfNat, Int.reduceNegSucc]; have ok0 : okR z a0 := hp; intro p_v_h; refine ⟨fun _ _ => ok0, fun v_h z a1 e1 ⟨v1, a1', e1', ho, ok1, W_h, L_h⟩ => ?_⟩; cases ho; intro p_v_r; refine ⟨fun _ _ => ok1, fun v_r z a2 e2 ⟨v1, a1', e1', ho, ok2, W_r, L_r⟩ => ?_⟩; cases ho; intro p_v_s; refine ⟨fun _ _ => ok2, fun v_s z a3 e3 ⟨v1, a1', e1', ho, ok3, W_s, L_s⟩ => ?_⟩; cases ho; intro p_v_has; refine ⟨fun _ _ => ok3, fun v_has z a4 e4 ⟨v1, a1', e1', ho, ok4, W_has, _⟩ => ?_⟩; cases ho; intro p_v_b; refine ⟨fun _ _ => ok4, fun v_b z a5 e5 ⟨v1, a1', e1', ho, ok5, W_b, L_b⟩ => ?_⟩; cases ho; intro p_v_f; refine ⟨fun _ _ => ok5, fun v_f z a6 e6 ⟨v1, a1', e1', ho, ok6, W_f, L_f⟩ => ?_⟩; cases ho; refine ⟨⟨⟨v_h, v_r, v_s, v_has, v_b, v_f⟩, a6, e6, rfl, ok6, Reads.bind W_h (Reads.bind W_r (Reads.bind W_s (Reads.bind W_has (Reads.bind W_b (Reads.bind W_f (Reads.ok _ _))))))⟩, fun w hw => ?_⟩; obtain ⟨⟨⟨⟨⟨⟨_, _⟩, _⟩, _⟩, _⟩, _⟩, _⟩ := hw; exact ⟨⟨v_h, v_r, v_s, v_has, v_b, v_f⟩, a6, e6, rfl, Reads.bind W_h (Reads.bind W_r (Reads.bind W_s (Reads.bind W_has (Reads.bind W_b (Reads.bind W_f (Reads.ok _ _)))))), trivial, L_b⟩
def lim_header : HeaderD → Prop := fun _ => True
def cfg_rheader : Cfg := { con := [(67, 0), (156, 0)], lents := [(67, [(0, 122)]), (156, [(0, 122)])], mine := [(0, 122)] }
def vcd_rheader : { v : VC // vcOf Tryz.prog cfg_rheader 92 = v } := by refine ⟨?v, ?h⟩; rotate_left; conv => lhs; reduce
theorem vce_rheader : vcOf Tryz.prog cfg_rheader 92 = vcd_rheader.1 := vcd_rheader.2
set_option linter.unusedVariables false in
theorem rheader_ok : KeepsL Tryz.prog 92 (refC headerR lim_header) cfg_rheader.mine := by
 refine keepsL_v Tryz.func92 cfg_rheader vce_rheader [.p, .s, .i, .i] (refC headerR lim_header) [(67, RNumS), (156, RDigS)] ⟨rnum_ok, rdig_ok, trivial⟩ (by kernel_rfl) (fun _ _ _ h => h) ?_; intro x0 z a0 e0 w hp; refine ⟨[], vc_use ?Q ?h ?g⟩
 case h => intro O C s I b; conv => lhs; reduce
 dsimp only [std]; simp only [ctrOf, invOf, List.lookup, Nat.reduceBEq, Option.getD_some, Int.reduceOfNat, Int.reduceNegSucc]; have ok0 : okR z a0 := hp; intro p_v_c; refine ⟨fun _ _ => ok0, fun v_c z a1 e1 ⟨v1, a1', e1', ho, ok1, W_c, L_c⟩ => ?_⟩; cases ho; intro p_v_h; refine ⟨fun _ _ => ok1, fun v_h z a2 e2 ⟨v1, a1', e1', ho, ok2, W_h, L_h⟩ => ?_⟩; cases ho; intro p_v_p; refine ⟨fun _ _ => ok2, fun v_p z a3 e3 ⟨v1, a1', e1', ho, ok3, W_p, L_p⟩ => ?_⟩; cases ho; intro p_v_t; refine ⟨fun _ _ => ok3, fun v_t z a4 e4 ⟨v1, a1', e1', ho, ok4, W_t, L_t⟩ => ?_⟩; cases ho; intro p_v_g; refine ⟨fun _ _ => ok4, fun v_g z a5 e5 ⟨v1, a1', e1', ho, ok5, W_g, L_g⟩ => ?_⟩; cases ho; intro p_v_s; refine ⟨fun _ _ => ok5, fun v_s z a6 e6 ⟨v1, a1', e1', ho, ok6, W_s, L_s⟩ => ?_⟩; cases ho; intro p_v_r; refine ⟨fun _ _ => ok6, fun v_r z a7 e7 ⟨v1, a1', e1', ho, ok7, W_r, L_r⟩ => ?_⟩; cases ho; intro p_v_b; refine ⟨fun _ _ => ok7, fun v_b z a8 e8 ⟨v1, a1', e1', ho, ok8, W_b, L_b⟩ => ?_⟩; cases ho; intro p_v_o; refine ⟨fun _ _ => ok8, fun v_o z a9 e9 ⟨v1, a1', e1', ho, ok9, W_o, L_o⟩ => ?_⟩; cases ho; refine ⟨⟨⟨v_c, v_h, v_p, v_t, v_g, v_s, v_r, v_b, v_o⟩, a9, e9, rfl, ok9, Reads.bind W_c (Reads.bind W_h (Reads.bind W_p (Reads.bind W_t (Reads.bind W_g (Reads.bind W_s (Reads.bind W_r (Reads.bind W_b (Reads.bind W_o (Reads.ok _ _)))))))))⟩, fun w hw => ?_⟩; obtain ⟨⟨⟨⟨⟨⟨⟨⟨⟨_, _⟩, _⟩, _⟩, _⟩, _⟩, _⟩, _⟩, _⟩, _⟩ := hw; exact ⟨⟨v_c, v_h, v_p, v_t, v_g, v_s, v_r, v_b, v_o⟩, a9, e9, rfl, Reads.bind W_c (Reads.bind W_h (Reads.bind W_p (Reads.bind W_t (Reads.bind W_g (Reads.bind W_s (Reads.bind W_r (Reads.bind W_b (Reads.bind W_o (Reads.ok _ _))))))))), trivial, ⟨L_p, L_t, L_g, L_s, L_r, L_b⟩⟩
def lim_guilt : GuiltD → Prop := fun _ => True
def cfg_rguilt : Cfg := { con := [(74, 0)], lents := [(74, [(0, 122)])], mine := [(0, 122)] }
def vcd_rguilt : { v : VC // vcOf Tryz.prog cfg_rguilt 110 = v } := by refine ⟨?v, ?h⟩; rotate_left; conv => lhs; reduce
theorem vce_rguilt : vcOf Tryz.prog cfg_rguilt 110 = vcd_rguilt.1 := vcd_rguilt.2
set_option linter.unusedVariables false in
theorem rguilt_ok : KeepsL Tryz.prog 110 (refC guiltR lim_guilt) cfg_rguilt.mine := by
 refine keepsL_v Tryz.func110 cfg_rguilt vce_rguilt [.p, .s, .i, .i] (refC guiltR lim_guilt) [(74, (refC voteR lim_vote))] ⟨rvote_ok, trivial⟩ (by kernel_rfl) (fun _ _ _ h => h) ?_; intro x0 z a0 e0 w hp; refine ⟨[], vc_use ?Q ?h ?g⟩
 case h => intro O C s I b; conv => lhs; reduce
 dsimp only [std]; simp only [ctrOf, invOf, List.lookup, Nat.reduceBEq, Option.getD_some, Int.reduceOfNat, Int.reduceNegSucc]; have ok0 : okR z a0 := hp; intro p_a; refine ⟨fun _ _ => ok0, fun l_a_0 l_a_1 l_a_2 l_a_3 l_a_4 l_a_5 z a1 e1 ⟨y_a, a1', e1', ho, ok1, W_a⟩ => ?_⟩; have ho : ([U.i e1, .i a1, .s z] : List U) = _ := ho; cases ho; intro p_b; refine ⟨fun _ _ => ok1, fun l_b_0 l_b_1 l_b_2 l_b_3 l_b_4 l_b_5 z a2 e2 ⟨y_b, a1', e1', ho, ok2, W_b⟩ => ?_⟩; have ho : ([U.i e2, .i a2, .s z] : List U) = _ := ho; cases ho; refine ⟨⟨⟨y_a, y_b⟩, a2, e2, rfl, ok2, Reads.bind W_a (Reads.bind W_b (Reads.ok _ _))⟩, fun w hw => ?_⟩; obtain ⟨⟨_, ⟨x_a, a2_a, e2_a, q_a, P_a, L_a, H_a⟩⟩, ⟨x_b, a2_b, e2_b, q_b, P_b, L_b, H_b⟩⟩ := hw; cases q_a; cases q_b; exact ⟨⟨x_a, x_b⟩, a2, e2, rfl, Reads.bind P_a (Reads.bind P_b (Reads.ok _ _)), trivial, ⟨H_a, H_b⟩⟩
def lim_account : AccountD → Prop := fun _ => True
def cfg_raccount : Cfg := { con := [(67, 0), (155, 0)], lents := [(67, [(0, 122)]), (155, [(0, 122)])], mine := [(0, 122)] }
def vcd_raccount : { v : VC // vcOf Tryz.prog cfg_raccount 208 = v } := by refine ⟨?v, ?h⟩; rotate_left; conv => lhs; reduce
theorem vce_raccount : vcOf Tryz.prog cfg_raccount 208 = vcd_raccount.1 := vcd_raccount.2
set_option linter.unusedVariables false in
theorem raccount_ok : KeepsL Tryz.prog 208 (refC accountR lim_account) cfg_raccount.mine := by
 refine keepsL_v Tryz.func208 cfg_raccount vce_raccount [.p, .s, .i, .i] (refC accountR lim_account) [(67, RNumS), (155, RFlagS)] ⟨rnum_ok, rflag_ok, trivial⟩ (by kernel_rfl) (fun _ _ _ h => h) ?_; intro x0 z a0 e0 w hp; refine ⟨[], vc_use ?Q ?h ?g⟩
 case h => intro O C s I b; conv => lhs; reduce
 dsimp only [std]; simp only [ctrOf, invOf, List.lookup, Nat.reduceBEq, Option.getD_some, Int.reduceOfNat, Int.reduceNegSucc]; have ok0 : okR z a0 := hp; intro p_v_b; refine ⟨fun _ _ => ok0, fun v_b z a1 e1 ⟨v1, a1', e1', ho, ok1, W_b, L_b⟩ => ?_⟩; cases ho; intro p_v_f; refine ⟨fun _ _ => ok1, fun v_f z a2 e2 ⟨v1, a1', e1', ho, ok2, W_f, L_f⟩ => ?_⟩; cases ho; intro p_v_n; refine ⟨fun _ _ => ok2, fun v_n z a3 e3 ⟨v1, a1', e1', ho, ok3, W_n, L_n⟩ => ?_⟩; cases ho; intro p_v_o; refine ⟨fun _ _ => ok3, fun v_o z a4 e4 ⟨v1, a1', e1', ho, ok4, W_o, L_o⟩ => ?_⟩; cases ho; intro p_v_l; refine ⟨fun _ _ => ok4, fun v_l z a5 e5 ⟨v1, a1', e1', ho, ok5, W_l, L_l⟩ => ?_⟩; cases ho; intro p_v_a; refine ⟨fun _ _ => ok5, fun v_a z a6 e6 ⟨v1, a1', e1', ho, ok6, W_a, L_a⟩ => ?_⟩; cases ho; intro p_v_j; refine ⟨fun _ _ => ok6, fun v_j z a7 e7 ⟨v1, a1', e1', ho, ok7, W_j, _⟩ => ?_⟩; cases ho; refine ⟨⟨⟨v_b, v_f, v_n, v_o, v_l, v_a, v_j⟩, a7, e7, rfl, ok7, Reads.bind W_b (Reads.bind W_f (Reads.bind W_n (Reads.bind W_o (Reads.bind W_l (Reads.bind W_a (Reads.bind W_j (Reads.ok _ _)))))))⟩, fun w hw => ?_⟩; obtain ⟨⟨⟨⟨⟨⟨⟨_, _⟩, _⟩, _⟩, _⟩, _⟩, _⟩, _⟩ := hw; exact ⟨⟨v_b, v_f, v_n, v_o, v_l, v_a, v_j⟩, a7, e7, rfl, Reads.bind W_b (Reads.bind W_f (Reads.bind W_n (Reads.bind W_o (Reads.bind W_l (Reads.bind W_a (Reads.bind W_j (Reads.ok _ _))))))), trivial, trivial⟩
end Go.Proofs.YtjhaafbbdgjagaaGreat
