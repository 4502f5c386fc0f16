/- Of the texts Pr0, Pr1. -/
import Derived.Test.YtjhaafbbdgjagaaGreatG46
set_option linter.unusedSimpArgs false
set_option linter.unusedVariables false
namespace Go.Proofs.YtjhaafbbdgjagaaGreat
open Go.RowKit Vc
set_option maxRecDepth 100000
def Nz {α : Type} (p : ByteArray → Got α) : Prop := ∀ s, p s ≠ .error 0
theorem Nz.ok {α : Type} (v : α) : Nz fun z => .ok (v, z) := fun _ h => by cases h
theorem Nz.bind {α β : Type} {p : ByteArray → Got α} {f : α → ByteArray → Got β} (h : Nz p) (k : ∀ x, Nz (f x)) : Nz (pBind p f) := by
 intro s hs; unfold pBind at hs; split at hs
 ·next e he => injection hs with hs; subst hs; exact h s he
 ·next x t _ => exact k x t hs
theorem Nz.take (n : Int) : Nz (pTake n) := by
 intro s h; unfold pTake at h; split at h
 ·injection h with h; omega
 ·cases h
theorem Nz.upto (n : Int) : Nz (pUpTo n) := by
 intro s h; unfold pUpTo at h; split at h
 ·next e he => injection h with h; subst h; exact Nz.take _ _ he
 ·split at h
  ·injection h with h; omega
  ·split at h
   ·next e he => injection h with h; subst h; exact Nz.take _ _ he
   ·split at h
    ·injection h with h; omega
    ·split at h
     ·injection h with h; omega
     ·cases h
theorem Nz.num : Nz pNum := Nz.upto _
theorem Nz.dig : Nz pDig := by
 intro s h; unfold pDig at h; cases ht : pTake 8 s with
 | error e => rw [ht] at h; injection h with h; subst h; exact Nz.take _ _ ht
 | ok q => rw [ht] at h; cases h
theorem Nz.flag : Nz pFlag := by
 intro s h; unfold pFlag at h; split at h
 ·next e he => injection h with h; subst h; exact Nz.take _ _ he
 ·split at h
  ·cases h
  ·split at h
   ·cases h
   ·injection h with h; omega
theorem Nz.text (n : Int) : Nz (pText n) := (Nz.upto n).bind fun _ => Nz.take _
theorem Nz.rep {α : Type} {p : ByteArray → Got α} (h : Nz p) : ∀ k, Nz (pRep p k)
 | 0 => fun _ h => by cases h
 | k + 1 => by
  intro s hs; unfold pRep at hs; split at hs
  ·next e he => injection hs with hs; subst hs; exact h s he
  ·split at hs
   ·next e he => injection hs with hs; subst hs; exact Nz.rep h k _ he
   ·cases hs
theorem Nz.list {α : Type} {p : ByteArray → Got α} (n : Int) (h : Nz p) : Nz (pList n p) := by rw [pList_eq]; exact (Nz.upto n).bind fun k => h.rep k.toNat
def PairS : Ctr where
 pre us _ := match us with
  | [.i _, .s s] => Small s
  | _ => False
 post us os := match us with
  | [.i _, .s s] => ∃ (e f : Int) (b : ByteArray), os = [.s ByteArray.empty, .i e, .i f, .s b, .s ByteArray.empty, .i e, .i f, .s b] ∧ (e = 0 → f = 0 ∧ b = s)
  | _ => False
 fact _ _ _ := True
def GetW {D : Type} (K : Knd D) (put : D → Int) (z : D) : Ctr := { GetC K put z with post := fun us os => (GetC K put z).post us os ∧ ∃ w, (GetC K put z).fact us os w }
theorem getW_of {D : Type} {P : Program} {f : Nat} {K : Knd D} {put : D → Int} {z : D} (h : Keeps P f (GetC K put z)) : Keeps P f (GetW K put z) := by
 intro fn pin pout h1 h2 h3 us w hs hp; refine (h fn pin pout h1 h2 h3 us w hs hp).mono ?_; rintro e w' ⟨os, a, b, c, d, k⟩; exact ⟨os, a, b, ⟨c, w', d w' (fun _ _ _ => rfl) hp⟩, d, k⟩
theorem getC_put {D : Type} {K : Knd D} {p q : D → Int} {z : D} (h : ∀ s, pWhole K.R.p p s = pWhole K.R.p q s) : GetC K q z = GetC K p z := by unfold GetC; simp only [h]
theorem keeps_put {D : Type} {P : Program} {f : Nat} {K : Knd D} {p q : D → Int} {z : D} (h : ∀ s, pWhole K.R.p p s = pWhole K.R.p q s) (k : Keeps P f (GetC K q z)) : Keeps P f (GetC K p z) := by rw [← getC_put h]; exact k
theorem last_app {l : List U} {x y : U} (h : (l ++ [x]).getLast? = some y) : x = y := by simpa using h
theorem put_pre {D : Type} {K : Knd D} {put : D → Int} {z : D} {s : ByteArray} {A : List U} {e : Int} {w : World} (h : (GetC K put z).fact [.s s] (A ++ [.i e]) w) : (PutC K).pre (A ++ [.g (some (gotOf z (pWhole K.R.p put s)))]) w := by
 obtain ⟨x, hx, hh, hl, hs⟩ := h; obtain ⟨rfl, _⟩ := List.append_inj' hx rfl; exact ⟨x, _, rfl, hh, hl, fun y hy => by injection hy with hy; rw [hs, hy]⟩
theorem put_post {D : Type} {K : Knd D} {y : D} {A : List U} {b : ByteArray} {f : Int} (h : (PutC K).post (A ++ [.g (some y)]) [.s b, .i f]) : b = bs (K.out y).rs ∧ f = (K.out y).re := by
 obtain ⟨o, s, e, h1, h2, h3⟩ := h; have h1 := last_app h1; simp only [U.g.injEq, heq_eq_eq, true_and] at h1; simp only [List.cons.injEq, U.s.injEq, U.i.injEq, and_true] at h2; obtain ⟨rfl, rfl⟩ := h2; exact h3 y h1.symm
theorem pair_end {D : Type} {K : Knd D} {z : D} {s : ByteArray} {k e1 e2 f1 f2 : Int} {b1 b2 : ByteArray} {A B : List U} (hn : Nz K.R.p) (hb : ∀ {x}, pWhole K.R.p (fun y => (K.out y).re) s = .ok x → (K.out x).re = 0 ∧ bs (K.out x).rs = s)
  (h1 : (GetW K (fun y => (K.out y).re) z).post [.s s] (A ++ [.i e1])) (h2 : (GetW K (fun y => (K.out y).re) z).post [.s s] (B ++ [.i e2]))
  (h3 : (PutC K).post (A ++ [.g (some (gotOf z (pWhole K.R.p (fun y => (K.out y).re) s)))]) [.s b1, .i f1]) (h4 : (PutC K).post (B ++ [.g (some (gotOf z (pWhole K.R.p (fun y => (K.out y).re) s)))]) [.s b2, .i f2]) :
  PairS.post [.i k, .s s] [.s ByteArray.empty, .i e1, .i f1, .s b1, .s ByteArray.empty, .i e2, .i f2, .s b2] := by
 have g1 := last_app h1.1; have g2 := last_app h2.1; injection g1 with g1
 injection g2 with g2
 obtain ⟨rfl, rfl⟩ := put_post h3; obtain ⟨rfl, rfl⟩ := put_post h4; subst g1; subst g2; refine ⟨_, _, _, rfl, fun h => ?_⟩; cases hp : pWhole K.R.p (fun y => (K.out y).re) s with
 | ok x => exact hb hp
 | error e =>
  rw [hp] at h; replace h : e = 0 := h; subst h; unfold pWhole at hp; split at hp
  ·next e he => injection hp with hp; subst hp; exact absurd he (hn s)
  ·split at hp
   ·injection hp with hp; omega
   ·split at hp
    ·cases hp
    ·next hq => injection hp with hp; exact absurd hp hq
theorem pair_same {D : Type} {K : Knd D} {put : D → Int} {z : D} {s : ByteArray} {A B : List U} {e1 e2 : Int} (hs : ∀ x, K.R.strip x = x) (h1 : (GetW K put z).post [.s s] (A ++ [.i e1])) (h2 : (GetW K put z).post [.s s] (B ++ [.i e2])) : A = B := by
 obtain ⟨_, w, x, hx, _, _, sx⟩ := h1; obtain ⟨_, v, y, hy, _, _, sy⟩ := h2; obtain ⟨rfl, _⟩ := List.append_inj' hx rfl; obtain ⟨rfl, _⟩ := List.append_inj' hy rfl; rw [hs] at sx sy; rw [sx, sy]
theorem nz_vote : Nz pVote := by unfold pVote; exact Nz.num.bind fun _ => Nz.num.bind fun _ => Nz.num.bind fun _ => Nz.flag.bind fun _ => Nz.dig.bind fun _ => Nz.num.bind fun _ => Nz.ok _
theorem nz_header : Nz pHeader := by unfold pHeader; exact Nz.num.bind fun _ => Nz.num.bind fun _ => Nz.dig.bind fun _ => Nz.dig.bind fun _ => Nz.dig.bind fun _ => Nz.dig.bind fun _ => Nz.dig.bind fun _ => Nz.dig.bind fun _ => Nz.num.bind fun _ => Nz.ok _
theorem nz_turn : Nz pTurn := by unfold pTurn; exact (Nz.upto _).bind fun _ => Nz.dig.bind fun _ => Nz.ok _
theorem nz_seat : Nz pSeat := by unfold pSeat; exact Nz.num.bind fun _ => Nz.num.bind fun _ => Nz.ok _
theorem nz_note : Nz pNote := by unfold pNote; exact Nz.num.bind fun _ => Nz.num.bind fun _ => Nz.ok _
theorem nz_guilt : Nz pGuilt := by unfold pGuilt; exact nz_vote.bind fun _ => nz_vote.bind fun _ => Nz.ok _
theorem nz_parcel : Nz pParcel := by unfold pParcel; exact Nz.num.bind fun _ => Nz.num.bind fun _ => Nz.num.bind fun _ => Nz.ok _
theorem nz_cert : Nz pCert := by unfold pCert; exact Nz.num.bind fun _ => Nz.num.bind fun _ => Nz.num.bind fun _ => Nz.flag.bind fun _ => Nz.dig.bind fun _ => (Nz.list _ Nz.num).bind fun _ => Nz.ok _
theorem nz_bench : Nz pBench := by unfold pBench; exact (Nz.list _ nz_seat).bind fun _ => Nz.ok _
theorem nz_proof : Nz pProof := by unfold pProof; exact (Nz.list _ nz_turn).bind fun _ => Nz.flag.bind fun _ => (Nz.text _).bind fun _ => (Nz.text _).bind fun _ => Nz.ok _
theorem nz_sight : Nz pSight := by unfold pSight; exact nz_header.bind fun _ => nz_cert.bind fun _ => nz_bench.bind fun _ => Nz.ok _
theorem nz_view : Nz pView := by unfold pView; exact Nz.num.bind fun _ => Nz.num.bind fun _ => Nz.num.bind fun _ => Nz.num.bind fun _ => Nz.dig.bind fun _ => nz_bench.bind fun _ => Nz.ok _
theorem nz_result : Nz pResult := by unfold pResult; exact Nz.num.bind fun _ => Nz.num.bind fun _ => Nz.num.bind fun _ => (Nz.list _ nz_note).bind fun _ => Nz.ok _
theorem nz_account : Nz pAccount := by unfold pAccount; exact Nz.num.bind fun _ => Nz.num.bind fun _ => Nz.num.bind fun _ => Nz.num.bind fun _ => Nz.num.bind fun _ => Nz.num.bind fun _ => Nz.flag.bind fun _ => Nz.ok _
theorem nz_tx : Nz pTx := by unfold pTx; exact Nz.num.bind fun _ => Nz.num.bind fun _ => Nz.num.bind fun _ => Nz.num.bind fun _ => Nz.num.bind fun _ => Nz.num.bind fun _ => Nz.num.bind fun _ => (Nz.text _).bind fun _ => (Nz.list _ Nz.num).bind fun _ => (Nz.list _ nz_sight).bind fun _ => (Nz.list _ nz_proof).bind fun _ => Nz.ok _
theorem nz_block : Nz pBlock := by unfold pBlock; exact nz_header.bind fun _ => (Nz.list _ nz_tx).bind fun _ => (Nz.list _ nz_guilt).bind fun _ => Nz.ok _
theorem nz_motion : Nz pMotion := by unfold pMotion; exact Nz.num.bind fun _ => Nz.num.bind fun _ => nz_block.bind fun _ => (Nz.list _ nz_cert).bind fun _ => Nz.ok _
theorem nz_known : Nz pKnown := by unfold pKnown; exact nz_cert.bind fun _ => nz_block.bind fun _ => Nz.ok _
theorem nz_message : Nz pMessage := by unfold pMessage; exact Nz.num.bind fun _ => Nz.num.bind fun _ => Nz.num.bind fun _ => (Nz.list _ nz_vote).bind fun _ => (Nz.list _ nz_motion).bind fun _ => (Nz.list _ nz_known).bind fun _ => (Nz.list _ nz_tx).bind fun _ => Nz.ok _
theorem nz_record : Nz pRecord := by
 unfold pRecord; refine Nz.num.bind fun k => ?_
 split
 ·exact nz_vote.bind fun _ => Nz.ok _
 ·split
  ·exact nz_motion.bind fun _ => Nz.ok _
  ·split
   ·exact nz_known.bind fun _ => Nz.ok _
   ·exact Nz.ok _
def numG : Ctr := GetW numK (fun y => (numK.out y).re) numZ0
theorem gw_num : Keeps Tryz.prog 9 numG := getW_of wgetnum_ok
theorem gr_num : Keeps Tryz.prog 24 numG := getW_of (keeps_put (fun s => pWhole_put num_fine s) rgetnum_ok)
def voteG : Ctr := GetW voteK (fun y => (voteK.out y).re) voteZ0
theorem gw_vote : Keeps Tryz.prog 26 voteG := getW_of wgetvote_ok
theorem gr_vote : Keeps Tryz.prog 27 voteG := getW_of rgetvote_ok
def certG : Ctr := GetW certK (fun y => (certK.out y).re) certZ0
theorem gw_cert : Keeps Tryz.prog 30 certG := getW_of wgetcert_ok
theorem gr_cert : Keeps Tryz.prog 31 certG := getW_of rgetcert_ok
def benchG : Ctr := GetW benchK (fun y => (benchK.out y).re) benchZ0
theorem gw_bench : Keeps Tryz.prog 34 benchG := getW_of wgetbench_ok
theorem gr_bench : Keeps Tryz.prog 35 benchG := getW_of rgetbench_ok
def headerG : Ctr := GetW headerK (fun y => (headerK.out y).re) headerZ0
theorem gw_header : Keeps Tryz.prog 38 headerG := getW_of wgetheader_ok
theorem gr_header : Keeps Tryz.prog 39 headerG := getW_of (keeps_put (fun s => pWhole_put header_fine s) rgetheader_ok)
def proofG : Ctr := GetW proofK (fun y => (proofK.out y).re) proofZ0
theorem gw_proof : Keeps Tryz.prog 42 proofG := getW_of wgetproof_ok
theorem gr_proof : Keeps Tryz.prog 43 proofG := getW_of rgetproof_ok
def txG : Ctr := GetW txK (fun y => (txK.out y).re) txZ0
theorem gw_tx : Keeps Tryz.prog 46 txG := getW_of wgettx_ok
theorem gr_tx : Keeps Tryz.prog 47 txG := getW_of rgettx_ok
def guiltG : Ctr := GetW guiltK (fun y => (guiltK.out y).re) guiltZ0
theorem gw_guilt : Keeps Tryz.prog 50 guiltG := getW_of wgetguilt_ok
theorem gr_guilt : Keeps Tryz.prog 51 guiltG := getW_of rgetguilt_ok
def blockG : Ctr := GetW blockK (fun y => (blockK.out y).re) blockZ0
theorem gw_block : Keeps Tryz.prog 112 blockG := getW_of wgetblock_ok
theorem gr_block : Keeps Tryz.prog 113 blockG := getW_of rgetblock_ok
def messageG : Ctr := GetW messageK (fun y => (messageK.out y).re) messageZ0
theorem gw_message : Keeps Tryz.prog 116 messageG := getW_of wgetmessage_ok
theorem gr_message : Keeps Tryz.prog 117 messageG := getW_of rgetmessage_ok
def recordG : Ctr := GetW recordK (fun y => (recordK.out y).re) recordZ0
theorem gw_record : Keeps Tryz.prog 120 recordG := getW_of wgetrecord_ok
theorem gr_record : Keeps Tryz.prog 63 recordG := getW_of rgetrecord_ok
def accountG : Ctr := GetW accountK (fun y => (accountK.out y).re) accountZ0
theorem gw_account : Keeps Tryz.prog 121 accountG := getW_of wgetaccount_ok
theorem gr_account : Keeps Tryz.prog 122 accountG := getW_of (keeps_put (fun s => pWhole_put account_fine s) rgetaccount_ok)
def parcelG : Ctr := GetW parcelK (fun y => (parcelK.out y).re) parcelZ0
theorem gw_parcel : Keeps Tryz.prog 125 parcelG := getW_of wgetparcel_ok
theorem gr_parcel : Keeps Tryz.prog 126 parcelG := getW_of rgetparcel_ok
def viewG : Ctr := GetW viewK (fun y => (viewK.out y).re) viewZ0
theorem gw_view : Keeps Tryz.prog 129 viewG := getW_of wgetview_ok
theorem gr_view : Keeps Tryz.prog 130 viewG := getW_of rgetview_ok
def resultG : Ctr := GetW resultK (fun y => (resultK.out y).re) resultZ0
theorem gw_result : Keeps Tryz.prog 133 resultG := getW_of wgetresult_ok
theorem gr_result : Keeps Tryz.prog 134 resultG := getW_of (keeps_put (fun s => pWhole_put result_fine s) rgetresult_ok)
def cfg_pairs : Cfg := { con := [(112, 0), (114, 1), (113, 0), (115, 1), (116, 0), (118, 1), (117, 0), (119, 1), (120, 0), (65, 1), (63, 0), (64, 1), (121, 0), (123, 1), (122, 0), (124, 1), (125, 0), (127, 1), (126, 0), (128, 1), (129, 0), (131, 1), (130, 0), (132, 1), (133, 0), (135, 1), (134, 0), (136, 1)] }
def vcd_pairs : { v : VC // vcOfP Tryz.prog cfg_pairs [(56, [1000002, 9, 13])] 54 = v } := by refine ⟨?v, ?h⟩; rotate_left; conv => lhs; reduce
theorem vce_pairs : vcOf Tryz.prog cfg_pairs 54 = vcd_pairs.1 := by kernel_rfl
theorem pairs_ok : Keeps Tryz.prog 54 PairS := by
 refine keeps_v Tryz.func54 cfg_pairs vce_pairs [.i, .s] PairS [(112, blockG), (114, PutC blockK), (113, blockG), (115, PutC blockK), (116, messageG), (118, PutC messageK), (117, messageG), (119, PutC messageK), (120, recordG), (65, PutC recordK), (63, recordG), (64, PutC recordK), (121, accountG), (123, PutC accountK), (122, accountG), (124, PutC accountK), (125, parcelG), (127, PutC parcelK), (126, parcelG), (128, PutC parcelK), (129, viewG), (131, PutC viewK), (130, viewG), (132, PutC viewK), (133, resultG), (135, PutC resultK), (134, resultG), (136, PutC resultK)] ⟨gw_block, kputblock_ok, gr_block, krputblock_ok, gw_message, kputmessage_ok, gr_message, krputmessage_ok, gw_record, kputrecord_ok, gr_record, krputrecord_ok, gw_account, kputaccount_ok, gr_account, krputaccount_ok, gw_parcel, kputparcel_ok, gr_parcel, krputparcel_ok, gw_view, kputview_ok, gr_view, krputview_ok, gw_result, kputresult_ok, gr_result, krputresult_ok, trivial⟩ (by kernel_rfl) (fun _ _ _ h _ => h) ?_; intro k s w hp; refine ⟨[], vc_use ?Q ?h ?g⟩
 case h => intro O C s I b; conv => lhs; reduce
 dsimp only [std]; simp only [ctrOf, invOf, List.lookup, Nat.reduceBEq, Option.getD_some, Int.reduceOfNat, Int.reduceNegSucc]; have hs : Small s := hp; refine ⟨fun hk => ?_, fun hk => ?_⟩
 ·refine ⟨fun w _ => hs, fun a0 a1 a2 a3 a4 a5 a6 a7 a8 a9 a10 a11 a12 a13 a14 e1 h1 => ⟨fun w _ => hs, fun b0 b1 b2 b3 b4 b5 b6 b7 b8 b9 b10 b11 b12 b13 b14 e2 h2 => ?_⟩⟩
  let A : List U := [.i a0, .i a1, .i a2, .i a3, .i a4, .i a5, .i a6, .i a7, .i a8, .p a9, .n a10, .n a11, .p a12, .n a13, .n a14]
  let B : List U := [.i b0, .i b1, .i b2, .i b3, .i b4, .i b5, .i b6, .i b7, .i b8, .p b9, .n b10, .n b11, .p b12, .n b13, .n b14]
  refine ⟨_, some (gotOf blockZ0 (pWhole blockK.R.p (fun y => (blockK.out y).re) s)), fun w hw => put_pre (A := A) hw.1.2, fun t1 f1 h3 => ⟨_, some (gotOf blockZ0 (pWhole blockK.R.p (fun y => (blockK.out y).re) s)), fun w hw => put_pre (A := B) hw.1.2, fun t2 f2 h4 => ?_⟩⟩; exact ⟨pair_end (K := blockK) (z := blockZ0) (A := A) (B := B) nz_block (fun h => back_block h) h1 h2 h3 h4, fun _ _ => trivial⟩
 clear hk; refine ⟨fun hk => ?_, fun hk => ?_⟩
 ·refine ⟨fun w _ => hs, fun a0 a1 a2 a3 a4 a5 a6 a7 a8 a9 a10 a11 a12 a13 a14 e1 h1 => ⟨fun w _ => hs, fun b0 b1 b2 b3 b4 b5 b6 b7 b8 b9 b10 b11 b12 b13 b14 e2 h2 => ?_⟩⟩
  let A : List U := [.i a0, .i a1, .i a2, .p a3, .n a4, .n a5, .p a6, .n a7, .n a8, .p a9, .n a10, .n a11, .p a12, .n a13, .n a14]
  let B : List U := [.i b0, .i b1, .i b2, .p b3, .n b4, .n b5, .p b6, .n b7, .n b8, .p b9, .n b10, .n b11, .p b12, .n b13, .n b14]
  refine ⟨_, some (gotOf messageZ0 (pWhole messageK.R.p (fun y => (messageK.out y).re) s)), fun w hw => put_pre (A := A) hw.1.2, fun t1 f1 h3 => ⟨_, some (gotOf messageZ0 (pWhole messageK.R.p (fun y => (messageK.out y).re) s)), fun w hw => put_pre (A := B) hw.1.2, fun t2 f2 h4 => ?_⟩⟩; exact ⟨pair_end (K := messageK) (z := messageZ0) (A := A) (B := B) nz_message (fun h => back_message h) h1 h2 h3 h4, fun _ _ => trivial⟩
 clear hk; refine ⟨fun hk => ?_, fun hk => ?_⟩
 ·refine ⟨fun w _ => hs, fun a0 a1 a2 a3 a4 a5 a6 a7 a8 a9 a10 a11 a12 a13 a14 a15 a16 a17 a18 a19 a20 a21 a22 a23 a24 a25 a26 a27 a28 a29 a30 a31 a32 a33 a34 a35 a36 a37 a38 a39 a40 a41 a42 a43 a44 a45 a46 a47 a48 a49 e1 h1 => ⟨fun w _ => hs, fun b0 b1 b2 b3 b4 b5 b6 b7 b8 b9 b10 b11 b12 b13 b14 b15 b16 b17 b18 b19 b20 b21 b22 b23 b24 b25 b26 b27 b28 b29 b30 b31 b32 b33 b34 b35 b36 b37 b38 b39 b40 b41 b42 b43 b44 b45 b46 b47 b48 b49 e2 h2 => ?_⟩⟩
  let A : List U := [.i a0, .i a1, .i a2, .i a3, .b a4, .i a5, .i a6, .i a7, .i a8, .i a9, .i a10, .i a11, .i a12, .i a13, .i a14, .i a15, .i a16, .i a17, .p a18, .n a19, .n a20, .p a21, .n a22, .n a23, .p a24, .n a25, .n a26, .i a27, .i a28, .i a29, .b a30, .i a31, .p a32, .n a33, .n a34, .i a35, .i a36, .i a37, .i a38, .i a39, .i a40, .i a41, .i a42, .i a43, .p a44, .n a45, .n a46, .p a47, .n a48, .n a49]
  let B : List U := [.i b0, .i b1, .i b2, .i b3, .b b4, .i b5, .i b6, .i b7, .i b8, .i b9, .i b10, .i b11, .i b12, .i b13, .i b14, .i b15, .i b16, .i b17, .p b18, .n b19, .n b20, .p b21, .n b22, .n b23, .p b24, .n b25, .n b26, .i b27, .i b28, .i b29, .b b30, .i b31, .p b32, .n b33, .n b34, .i b35, .i b36, .i b37, .i b38, .i b39, .i b40, .i b41, .i b42, .i b43, .p b44, .n b45, .n b46, .p b47, .n b48, .n b49]
  refine ⟨_, some (gotOf recordZ0 (pWhole recordK.R.p (fun y => (recordK.out y).re) s)), fun w hw => put_pre (A := A) hw.1.2, fun t1 f1 h3 => ⟨_, some (gotOf recordZ0 (pWhole recordK.R.p (fun y => (recordK.out y).re) s)), fun w hw => put_pre (A := B) hw.1.2, fun t2 f2 h4 => ?_⟩⟩; exact ⟨pair_end (K := recordK) (z := recordZ0) (A := A) (B := B) nz_record (fun h => back_record h) h1 h2 h3 h4, fun _ _ => trivial⟩
 clear hk; refine ⟨fun hk => ?_, fun hk => ?_⟩
 ·refine ⟨fun w _ => hs, fun a0 a1 a2 a3 a4 a5 a6 e1 h1 => ⟨fun w _ => hs, fun b0 b1 b2 b3 b4 b5 b6 e2 h2 => ?_⟩⟩
  let A : List U := [.i a0, .i a1, .i a2, .i a3, .i a4, .i a5, .b a6]
  let B : List U := [.i b0, .i b1, .i b2, .i b3, .i b4, .i b5, .b b6]
  refine ⟨_, some (gotOf accountZ0 (pWhole accountK.R.p (fun y => (accountK.out y).re) s)), fun w hw => put_pre (A := A) hw.1.2, fun t1 f1 h3 => ⟨_, some (gotOf accountZ0 (pWhole accountK.R.p (fun y => (accountK.out y).re) s)), fun w hw => put_pre (A := B) hw.1.2, fun t2 f2 h4 => ?_⟩⟩; exact ⟨fun h => absurd (by simpa [A, B] using pair_same (K := accountK) (A := A) (B := B) (fun _ => rfl) h1 h2) h, fun _ => ⟨pair_end (K := accountK) (z := accountZ0) (A := A) (B := B) nz_account (fun h => back_account h) h1 h2 h3 h4, fun _ _ => trivial⟩⟩
 clear hk; refine ⟨fun hk => ?_, fun hk => ?_⟩
 ·refine ⟨fun w _ => hs, fun a0 a1 a2 e1 h1 => ⟨fun w _ => hs, fun b0 b1 b2 e2 h2 => ?_⟩⟩
  let A : List U := [.i a0, .i a1, .i a2]
  let B : List U := [.i b0, .i b1, .i b2]
  refine ⟨_, some (gotOf parcelZ0 (pWhole parcelK.R.p (fun y => (parcelK.out y).re) s)), fun w hw => put_pre (A := A) hw.1.2, fun t1 f1 h3 => ⟨_, some (gotOf parcelZ0 (pWhole parcelK.R.p (fun y => (parcelK.out y).re) s)), fun w hw => put_pre (A := B) hw.1.2, fun t2 f2 h4 => ?_⟩⟩; exact ⟨fun h => absurd (by simpa [A, B] using pair_same (K := parcelK) (A := A) (B := B) (fun _ => rfl) h1 h2) h, fun _ => ⟨pair_end (K := parcelK) (z := parcelZ0) (A := A) (B := B) nz_parcel (fun h => back_parcel h) h1 h2 h3 h4, fun _ _ => trivial⟩⟩
 clear hk; refine ⟨fun hk => ?_, fun hk => ?_⟩
 ·refine ⟨fun w _ => hs, fun a0 a1 a2 a3 a4 a5 a6 a7 e1 h1 => ⟨fun w _ => hs, fun b0 b1 b2 b3 b4 b5 b6 b7 e2 h2 => ?_⟩⟩
  let A : List U := [.i a0, .i a1, .i a2, .i a3, .i a4, .p a5, .n a6, .n a7]
  let B : List U := [.i b0, .i b1, .i b2, .i b3, .i b4, .p b5, .n b6, .n b7]
  refine ⟨_, some (gotOf viewZ0 (pWhole viewK.R.p (fun y => (viewK.out y).re) s)), fun w hw => put_pre (A := A) hw.1.2, fun t1 f1 h3 => ⟨_, some (gotOf viewZ0 (pWhole viewK.R.p (fun y => (viewK.out y).re) s)), fun w hw => put_pre (A := B) hw.1.2, fun t2 f2 h4 => ?_⟩⟩; exact ⟨pair_end (K := viewK) (z := viewZ0) (A := A) (B := B) nz_view (fun h => back_view h) h1 h2 h3 h4, fun _ _ => trivial⟩
 clear hk; refine ⟨fun w _ => hs, fun a0 a1 a2 a3 a4 a5 e1 h1 => ⟨fun w _ => hs, fun b0 b1 b2 b3 b4 b5 e2 h2 => ?_⟩⟩
 let A : List U := [.i a0, .i a1, .i a2, .p a3, .n a4, .n a5]
 let B : List U := [.i b0, .i b1, .i b2, .p b3, .n b4, .n b5]
 refine ⟨_, some (gotOf resultZ0 (pWhole resultK.R.p (fun y => (resultK.out y).re) s)), fun w hw => put_pre (A := A) hw.1.2, fun t1 f1 h3 => ⟨_, some (gotOf resultZ0 (pWhole resultK.R.p (fun y => (resultK.out y).re) s)), fun w hw => put_pre (A := B) hw.1.2, fun t2 f2 h4 => ?_⟩⟩; exact ⟨pair_end (K := resultK) (z := resultZ0) (A := A) (B := B) nz_result (fun h => back_result h) h1 h2 h3 h4, fun _ _ => trivial⟩
def cfg_pair : Cfg := { con := [(9, 0), (8, 1), (24, 0), (25, 1), (26, 0), (28, 1), (27, 0), (29, 1), (30, 0), (32, 1), (31, 0), (33, 1), (34, 0), (36, 1), (35, 0), (37, 1), (38, 0), (40, 1), (39, 0), (41, 1), (42, 0), (44, 1), (43, 0), (45, 1), (46, 0), (48, 1), (47, 0), (49, 1), (50, 0), (52, 1), (51, 0), (53, 1), (54, 0)] }
def vcd_pair : { v : VC // vcOfP Tryz.prog cfg_pair [(61, [1000002, 9, 13])] 6 = v } := by refine ⟨?v, ?h⟩; rotate_left; conv => lhs; reduce
theorem vce_pair : vcOf Tryz.prog cfg_pair 6 = vcd_pair.1 := by kernel_rfl
theorem pair_ok : Keeps Tryz.prog 6 PairS := by
 refine keeps_v Tryz.func6 cfg_pair vce_pair [.i, .s] PairS [(9, numG), (8, PutC numK), (24, numG), (25, PutC numK), (26, voteG), (28, PutC voteK), (27, voteG), (29, PutC voteK), (30, certG), (32, PutC certK), (31, certG), (33, PutC certK), (34, benchG), (36, PutC benchK), (35, benchG), (37, PutC benchK), (38, headerG), (40, PutC headerK), (39, headerG), (41, PutC headerK), (42, proofG), (44, PutC proofK), (43, proofG), (45, PutC proofK), (46, txG), (48, PutC txK), (47, txG), (49, PutC txK), (50, guiltG), (52, PutC guiltK), (51, guiltG), (53, PutC guiltK), (54, PairS)] ⟨gw_num, kputnum_ok, gr_num, krputnum_ok, gw_vote, kputvote_ok, gr_vote, krputvote_ok, gw_cert, kputcert_ok, gr_cert, krputcert_ok, gw_bench, kputbench_ok, gr_bench, krputbench_ok, gw_header, kputheader_ok, gr_header, krputheader_ok, gw_proof, kputproof_ok, gr_proof, krputproof_ok, gw_tx, kputtx_ok, gr_tx, krputtx_ok, gw_guilt, kputguilt_ok, gr_guilt, krputguilt_ok, pairs_ok, trivial⟩ (by kernel_rfl) (fun _ _ _ h _ => h) ?_; intro k s w hp; refine ⟨[], vc_use ?Q ?h ?g⟩
 case h => intro O C s I b; conv => lhs; reduce
 dsimp only [std]; simp only [ctrOf, invOf, List.lookup, Nat.reduceBEq, Option.getD_some, Int.reduceOfNat, Int.reduceNegSucc]; have hs : Small s := hp; refine ⟨fun hk => ?_, fun hk => ?_⟩
 ·refine ⟨fun w _ => hs, fun a0 e1 h1 => ⟨fun w _ => hs, fun b0 e2 h2 => ?_⟩⟩
  let A : List U := [.i a0]
  let B : List U := [.i b0]
  refine ⟨_, some (gotOf numZ0 (pWhole numK.R.p (fun y => (numK.out y).re) s)), fun w hw => put_pre (A := A) hw.1.2, fun t1 f1 h3 => ⟨_, some (gotOf numZ0 (pWhole numK.R.p (fun y => (numK.out y).re) s)), fun w hw => put_pre (A := B) hw.1.2, fun t2 f2 h4 => ?_⟩⟩; exact ⟨pair_end (K := numK) (z := numZ0) (A := A) (B := B) Nz.num (fun h => back_num h) h1 h2 h3 h4, fun _ _ => trivial⟩
 clear hk; refine ⟨fun hk => ?_, fun hk => ?_⟩
 ·refine ⟨fun w _ => hs, fun a0 a1 a2 a3 a4 a5 e1 h1 => ⟨fun w _ => hs, fun b0 b1 b2 b3 b4 b5 e2 h2 => ?_⟩⟩
  let A : List U := [.i a0, .i a1, .i a2, .b a3, .i a4, .i a5]
  let B : List U := [.i b0, .i b1, .i b2, .b b3, .i b4, .i b5]
  refine ⟨_, some (gotOf voteZ0 (pWhole voteK.R.p (fun y => (voteK.out y).re) s)), fun w hw => put_pre (A := A) hw.1.2, fun t1 f1 h3 => ⟨_, some (gotOf voteZ0 (pWhole voteK.R.p (fun y => (voteK.out y).re) s)), fun w hw => put_pre (A := B) hw.1.2, fun t2 f2 h4 => ?_⟩⟩; exact ⟨pair_end (K := voteK) (z := voteZ0) (A := A) (B := B) nz_vote (fun h => back_vote h) h1 h2 h3 h4, fun _ _ => trivial⟩
 clear hk; refine ⟨fun hk => ?_, fun hk => ?_⟩
 ·refine ⟨fun w _ => hs, fun a0 a1 a2 a3 a4 a5 a6 a7 e1 h1 => ⟨fun w _ => hs, fun b0 b1 b2 b3 b4 b5 b6 b7 e2 h2 => ?_⟩⟩
  let A : List U := [.i a0, .i a1, .i a2, .b a3, .i a4, .p a5, .n a6, .n a7]
  let B : List U := [.i b0, .i b1, .i b2, .b b3, .i b4, .p b5, .n b6, .n b7]
  refine ⟨_, some (gotOf certZ0 (pWhole certK.R.p (fun y => (certK.out y).re) s)), fun w hw => put_pre (A := A) hw.1.2, fun t1 f1 h3 => ⟨_, some (gotOf certZ0 (pWhole certK.R.p (fun y => (certK.out y).re) s)), fun w hw => put_pre (A := B) hw.1.2, fun t2 f2 h4 => ?_⟩⟩; exact ⟨pair_end (K := certK) (z := certZ0) (A := A) (B := B) nz_cert (fun h => back_cert h) h1 h2 h3 h4, fun _ _ => trivial⟩
 clear hk; refine ⟨fun hk => ?_, fun hk => ?_⟩
 ·refine ⟨fun w _ => hs, fun a0 a1 a2 e1 h1 => ⟨fun w _ => hs, fun b0 b1 b2 e2 h2 => ?_⟩⟩
  let A : List U := [.p a0, .n a1, .n a2]
  let B : List U := [.p b0, .n b1, .n b2]
  refine ⟨_, some (gotOf benchZ0 (pWhole benchK.R.p (fun y => (benchK.out y).re) s)), fun w hw => put_pre (A := A) hw.1.2, fun t1 f1 h3 => ⟨_, some (gotOf benchZ0 (pWhole benchK.R.p (fun y => (benchK.out y).re) s)), fun w hw => put_pre (A := B) hw.1.2, fun t2 f2 h4 => ?_⟩⟩; exact ⟨pair_end (K := benchK) (z := benchZ0) (A := A) (B := B) nz_bench (fun h => back_bench h) h1 h2 h3 h4, fun _ _ => trivial⟩
 clear hk; refine ⟨fun hk => ?_, fun hk => ?_⟩
 ·refine ⟨fun w _ => hs, fun a0 a1 a2 a3 a4 a5 a6 a7 a8 e1 h1 => ⟨fun w _ => hs, fun b0 b1 b2 b3 b4 b5 b6 b7 b8 e2 h2 => ?_⟩⟩
  let A : List U := [.i a0, .i a1, .i a2, .i a3, .i a4, .i a5, .i a6, .i a7, .i a8]
  let B : List U := [.i b0, .i b1, .i b2, .i b3, .i b4, .i b5, .i b6, .i b7, .i b8]
  refine ⟨_, some (gotOf headerZ0 (pWhole headerK.R.p (fun y => (headerK.out y).re) s)), fun w hw => put_pre (A := A) hw.1.2, fun t1 f1 h3 => ⟨_, some (gotOf headerZ0 (pWhole headerK.R.p (fun y => (headerK.out y).re) s)), fun w hw => put_pre (A := B) hw.1.2, fun t2 f2 h4 => ?_⟩⟩; exact ⟨pair_end (K := headerK) (z := headerZ0) (A := A) (B := B) nz_header (fun h => back_header h) h1 h2 h3 h4, fun _ _ => trivial⟩
 clear hk; refine ⟨fun hk => ?_, fun hk => ?_⟩
 ·refine ⟨fun w _ => hs, fun a0 a1 a2 a3 a4 a5 e1 h1 => ⟨fun w _ => hs, fun b0 b1 b2 b3 b4 b5 e2 h2 => ?_⟩⟩
  let A : List U := [.p a0, .n a1, .n a2, .b a3, .s a4, .s a5]
  let B : List U := [.p b0, .n b1, .n b2, .b b3, .s b4, .s b5]
  refine ⟨_, some (gotOf proofZ0 (pWhole proofK.R.p (fun y => (proofK.out y).re) s)), fun w hw => put_pre (A := A) hw.1.2, fun t1 f1 h3 => ⟨_, some (gotOf proofZ0 (pWhole proofK.R.p (fun y => (proofK.out y).re) s)), fun w hw => put_pre (A := B) hw.1.2, fun t2 f2 h4 => ?_⟩⟩; exact ⟨pair_end (K := proofK) (z := proofZ0) (A := A) (B := B) nz_proof (fun h => back_proof h) h1 h2 h3 h4, fun _ _ => trivial⟩
 clear hk; refine ⟨fun hk => ?_, fun hk => ?_⟩
 ·refine ⟨fun w _ => hs, fun a0 a1 a2 a3 a4 a5 a6 a7 a8 a9 a10 a11 a12 a13 a14 a15 a16 e1 h1 => ⟨fun w _ => hs, fun b0 b1 b2 b3 b4 b5 b6 b7 b8 b9 b10 b11 b12 b13 b14 b15 b16 e2 h2 => ?_⟩⟩
  let A : List U := [.i a0, .i a1, .i a2, .i a3, .i a4, .i a5, .i a6, .s a7, .p a8, .n a9, .n a10, .p a11, .n a12, .n a13, .p a14, .n a15, .n a16]
  let B : List U := [.i b0, .i b1, .i b2, .i b3, .i b4, .i b5, .i b6, .s b7, .p b8, .n b9, .n b10, .p b11, .n b12, .n b13, .p b14, .n b15, .n b16]
  refine ⟨_, some (gotOf txZ0 (pWhole txK.R.p (fun y => (txK.out y).re) s)), fun w hw => put_pre (A := A) hw.1.2, fun t1 f1 h3 => ⟨_, some (gotOf txZ0 (pWhole txK.R.p (fun y => (txK.out y).re) s)), fun w hw => put_pre (A := B) hw.1.2, fun t2 f2 h4 => ?_⟩⟩; exact ⟨pair_end (K := txK) (z := txZ0) (A := A) (B := B) nz_tx (fun h => back_tx h) h1 h2 h3 h4, fun _ _ => trivial⟩
 clear hk; refine ⟨fun hk => ?_, fun hk => ?_⟩
 ·refine ⟨fun w _ => hs, fun a0 a1 a2 a3 a4 a5 a6 a7 a8 a9 a10 a11 e1 h1 => ⟨fun w _ => hs, fun b0 b1 b2 b3 b4 b5 b6 b7 b8 b9 b10 b11 e2 h2 => ?_⟩⟩
  let A : List U := [.i a0, .i a1, .i a2, .b a3, .i a4, .i a5, .i a6, .i a7, .i a8, .b a9, .i a10, .i a11]
  let B : List U := [.i b0, .i b1, .i b2, .b b3, .i b4, .i b5, .i b6, .i b7, .i b8, .b b9, .i b10, .i b11]
  refine ⟨_, some (gotOf guiltZ0 (pWhole guiltK.R.p (fun y => (guiltK.out y).re) s)), fun w hw => put_pre (A := A) hw.1.2, fun t1 f1 h3 => ⟨_, some (gotOf guiltZ0 (pWhole guiltK.R.p (fun y => (guiltK.out y).re) s)), fun w hw => put_pre (A := B) hw.1.2, fun t2 f2 h4 => ?_⟩⟩; exact ⟨pair_end (K := guiltK) (z := guiltZ0) (A := A) (B := B) nz_guilt (fun h => back_guilt h) h1 h2 h3 h4, fun _ _ => trivial⟩
 clear hk; exact ⟨fun w _ => hs, fun c0 c1 c2 c3 c4 c5 c6 c7 h => ⟨h, fun _ _ => trivial⟩⟩
def Iw (n : Int) : Prop := -9223372036854775808 ≤ n ∧ n ≤ 9223372036854775807
def pickF (c n : Int) : Int := if c < 0 then Int.tmod (0 - (c + 1)) n else Int.tmod c n
def PickS : Ctr where
 pre us _ := match us with
  | [.i c, .i n] => Iw c ∧ 0 < n
  | _ => False
 post us os := match us with
  | [.i c, .i n] => os = [.i (pickF c n)]
  | _ => False
 fact _ _ _ := True
def cfg_pick : Cfg := {  }
def vcd_pick : { v : VC // vcOf Tryz.prog cfg_pick 7 = v } := by refine ⟨?v, ?h⟩; rotate_left; conv => lhs; reduce
theorem vce_pick : vcOf Tryz.prog cfg_pick 7 = vcd_pick.1 := vcd_pick.2
theorem pick_ok : Keeps Tryz.prog 7 PickS := by
 refine keeps_v Tryz.func7 cfg_pick vce_pick [.i, .i] PickS [] trivial (by kernel_rfl) (fun _ _ _ h _ => h) ?_; intro c n w hp; refine ⟨[], vc_use ?Q ?h ?g⟩
 case h => intro O C s I b; conv => lhs; reduce
 dsimp only [std]; simp only [ctrOf, invOf, List.lookup, Nat.reduceBEq, Option.getD_some, Int.reduceOfNat, Int.reduceNegSucc]; obtain ⟨⟨h1, h2⟩, h3⟩ : Iw c ∧ 0 < n := hp; refine ⟨fun h => ⟨by omega, by omega, by omega, ?_, fun _ _ => trivial⟩, fun h => ⟨by omega, ?_, fun _ _ => trivial⟩⟩
 ·show _ = _; rw [pickF, if_pos h]
 ·show _ = _; rw [pickF, if_neg h]
def LawS : Ctr where
 pre us _ := match us with
  | [.i c, .s _] => Iw c
  | _ => False
 post _ os := os = [.b true]
 fact _ _ _ := True
theorem law_calls {f : Nat} {fn : Func} (hk : Keeps Tryz.prog f LawS) (h1 : Tryz.prog.funcs[f]? = some fn) (h2 : shsOf Tryz.prog fn.params = some [.one (.int .i64), .one .str]) (h3 : shsOf Tryz.prog fn.resultTypes = some [.one .bool]) (c : Int) (s : ByteArray) (hc : Iw c) (w : World) :
  Calls Tryz.prog f #[.int .i64 c, .string s] w fun e w' => e = .returned (.bool true) ∧ Below w.heap.size w w' := by
 have h := hk fn _ _ h1 h2 h3 [.i c, .s s] w rfl hc; refine Calls.mono (show Calls Tryz.prog f #[.int .i64 c, .string s] w _ from h) ?_; rintro e w' ⟨os, _, rfl, rfl, _, hb⟩; exact ⟨rfl, hb⟩
end Go.Proofs.YtjhaafbbdgjagaaGreat
