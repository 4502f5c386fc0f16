/- Of the texts Gp2, Gp3. -/
import Derived.Test.YtjhaafbbdgjagaaGreatProg
import Derived.Test.YtjhaafbbdgjagaaGreatG16
import Derived.Test.YtjhaafbbdgjagaaGreatG36
set_option linter.unusedSimpArgs false
set_option linter.unusedVariables false
namespace Go.Proofs.YtjhaafbbdgjagaaGreat
open Go.RowKit Vc
set_option maxRecDepth 100000
def pBind {α β : Type} (p : ByteArray → Got α) (f : α → ByteArray → Got β) (s : ByteArray) : Got β := match p s with | .error e => .error e | .ok (x, r) => f x r
def Good {α : Type} (p : ByteArray → Got α) : Prop := ∀ s x r, p s = .ok (x, r) → Small s → Small r
theorem good_bind {α β : Type} {p : ByteArray → Got α} {f : α → ByteArray → Got β} (h : Good p) (g : ∀ x, Good (f x)) : Good (pBind p f) := by
 intro s y r hs hm; unfold pBind at hs; split at hs
 ·cases hs
 ·next x t hx => exact g x t y r hs (h s x t hx hm)
theorem good_ok {α : Type} (x : α) : Good fun s => .ok (x, s) := by
 intro s y r h hm; simp only [Except.ok.injEq, Prod.mk.injEq] at h; rw [← h.2]; exact hm
theorem good_upto (n : Int) : Good (pUpTo n) := fun _ _ _ h hs => (pUpTo_spec h hs).2.2
theorem good_num : Good pNum := good_upto _
theorem pDig_inv {s r : ByteArray} {n : Int} (h : pDig s = .ok (n, r)) : ∃ b, pTake 8 s = .ok (b, r) ∧ n = numOf b.data.toList := by
 unfold pDig at h; cases ht : pTake 8 s with
 | error e => rw [ht] at h; cases h
 | ok q =>
  obtain ⟨b, t⟩ := q; rw [ht] at h; simp only [Except.map, Except.ok.injEq, Prod.mk.injEq] at h; exact ⟨b, by rw [h.2], h.1.symm⟩
theorem good_dig : Good pDig := fun s n r h hs => by
 obtain ⟨b, hb, _⟩ := pDig_inv h; exact (pTake_small hb hs (by decide)).2.1
theorem pTake_len {n : Int} {s b r : ByteArray} (h : pTake n s = .ok (b, r)) : b.size ≤ n.toNat := by
 unfold pTake at h; split at h
 ·cases h
 ·simp only [Except.ok.injEq, Prod.mk.injEq] at h; rw [← h.1, ByteArray.size_extract]; omega
theorem pDig_spec {s r : ByteArray} {n : Int} (h : pDig s = .ok (n, r)) : 0 ≤ n ∧ n < 18446744073709551616 := by
 obtain ⟨b, hb, rfl⟩ := pDig_inv h; have h1 := numOf_lt _ b.data.toList rfl; have h2 := pTake_len hb; rw [size_list] at h1; have h3 : 256 ^ b.size ≤ 256 ^ 8 := Nat.pow_le_pow_right (by decide) (by omega); have : (256 : Nat) ^ 8 = 18446744073709551616 := by decide
 omega
theorem good_flag : Good pFlag := by
 intro s x r h hs; unfold pFlag at h; split at h
 ·cases h
 ·next b t hb =>
  have := (pTake_small hb hs (by decide)).2.1; split at h
  ·simp only [Except.ok.injEq, Prod.mk.injEq] at h; rw [← h.2]; exact this
  ·split at h
   ·simp only [Except.ok.injEq, Prod.mk.injEq] at h; rw [← h.2]; exact this
   ·cases h
theorem good_rep {α : Type} {p : ByteArray → Got α} (hp : Good p) : ∀ k, Good (pRep p k)
 | 0 => good_ok []
 | k + 1 => by
  intro s l r h hs; unfold pRep at h; split at h
  ·cases h
  ·next x t hx =>
   split at h
   ·cases h
   ·next l' t' hl =>
    simp only [Except.ok.injEq, Prod.mk.injEq] at h; rw [← h.2]; exact good_rep hp k t l' t' hl (hp s x t hx hs)
theorem good_list {α : Type} (n : Int) {p : ByteArray → Got α} (hp : Good p) : Good (pList n p) := by
 intro s l r h hs; unfold pList at h; split at h
 ·cases h
 ·next m t ht => exact good_rep hp _ t l r h (good_upto n s m t ht hs)
theorem gB_ok {P : Got Bool} {x : Bool} {s : ByteArray} (h : gB P = .ok [.b x, .s s]) : P = .ok (x, s) := by
 cases P with
 | error e => simp [gB, Except.map] at h
 | ok r => obtain ⟨a, b⟩ := r; simpa [gB, Except.map] using h
theorem gB_err {P : Got Bool} {e : Int} (h : gB P = .error e) : P = .error e := by
 cases P with
 | error e' => simpa [gB, Except.map] using h
 | ok r => simp [gB, Except.map] at h
theorem gS_ok {P : Got ByteArray} {x : ByteArray} {s : ByteArray} (h : gS P = .ok [.s x, .s s]) : P = .ok (x, s) := by
 cases P with
 | error e => simp [gS, Except.map] at h
 | ok r => obtain ⟨a, b⟩ := r; simpa [gS, Except.map] using h
theorem gS_err {P : Got ByteArray} {e : Int} (h : gS P = .error e) : P = .error e := by
 cases P with
 | error e' => simpa [gS, Except.map] using h
 | ok r => simp [gS, Except.map] at h
theorem short_of {α : Type} {most : Int} {p : ByteArray → Got α} {s r : ByteArray} {β : Type} {l : List β} {f : β → α} (h : pList most p s = .ok (l.map f, r)) (hm : most ≤ 1000000 := by decide) (hs : Small s := by assumption) : l.length ≤ maxLen := by
 unfold pList at h; split at h
 ·cases h
 ·next n t ht =>
  have h1 := pRep_len h; have h2 := pUpTo_spec ht hs; rw [List.length_map] at h1; unfold maxLen; omega
theorem bs_back (t : ByteArray) : bs t.data.toList = t := by
 unfold bs; simp
def numR : Rdr Int := { us := fun x => [.i x], cells := fun x => [.int .i64 x], strip := id, held := fun _ _ => True, p := pNum }
theorem ints_of {w : World} {B : Nat} {A : Option Addr} {l : List Int} (h : Rd w B 1 A l.length (l.flatMap numR.cells)) : Ints w B A l := by
 have : l.flatMap numR.cells = l.map (Value.int .i64) := by
  show l.flatMap (fun x => [Value.int .i64 x]) = _; clear h
  induction l with
  | nil => rfl
  | cons x l ih => rw [List.flatMap_cons, ih]; rfl
 rw [this] at h; exact h
def pVote : ByteArray → Got VoteD := pBind pNum fun h => pBind pNum fun r => pBind pNum fun s => pBind pFlag fun has => pBind pDig fun b => pBind pNum fun f => fun z => .ok (⟨h, r, s, has, b, f⟩, z)
theorem good_vote : Good pVote := by unfold pVote; exact good_bind good_num fun _ => good_bind good_num fun _ => good_bind good_num fun _ => good_bind good_flag fun _ => good_bind good_dig fun _ => good_bind good_num fun _ => good_ok _
def voteR : Rdr VoteD := { us := fun x => [.i x.h, .i x.r, .i x.s, .b x.has, .i x.b, .i x.f], cells := fun x => [.int .i64 x.h, .int .i64 x.r, .int .i64 x.s, .bool x.has, .int .u64 x.b, .int .i64 x.f], strip := fun x => x, held := fun w x => x.ok, p := pVote }
def cfg_pvote : Cfg := { con := [(58, 0), (149, 0), (150, 0)], lents := [(58, [(0, 208)]), (149, [(0, 208)]), (150, [(0, 208)])], mine := [(0, 208)], pans := [58, 149, 150] }
def vcd_pvote : { v : VC // vcOf Tryz.prog cfg_pvote 72 = v } := by refine ⟨?v, ?h⟩; rotate_left; conv => lhs; reduce
theorem vce_pvote : vcOf Tryz.prog cfg_pvote 72 = vcd_pvote.1 := vcd_pvote.2
set_option linter.unusedVariables false in
theorem pvote_ok : KeepsL Tryz.prog 72 (elemC voteR) cfg_pvote.mine := by
 refine keepsL_v Tryz.func72 cfg_pvote vce_pvote [.p, .s] (elemC voteR) [(58, PNumS), (149, PFlagS), (150, PDigS)] ⟨pnum_ok, pflag_ok, pdig_ok, trivial⟩ (by kernel_rfl) (fun _ _ _ h => h) ?_; intro x0 s0 w hp; refine ⟨[], vc_use ?Q ?h ?g⟩
 case h => intro O C s I b; conv => lhs; reduce
 dsimp only [std]; simp only [ctrOf, invOf, List.lookup, Nat.reduceBEq, Option.getD_some, Int.reduceOfNat, Int.reduceNegSucc]; have hs0 : Small s0 := hp; have bad : ∀ e, pVote s0 = .error e → (elemC voteR).pan [.p x0, .s s0] (stopCh e) := fun e h => ⟨e, h, rfl⟩
 simp only [rdC, PNumS, numF, PFlagS, flagF, PDigS, digF]; intro a_h; refine ⟨fun ch ⟨e, g, hc⟩ => hc ▸ bad e (by simp only [pVote, pBind, gI_err g]), fun _ _ => hs0, fun h s1 g_h => ?_⟩; replace g_h := gI_ok g_h; have hs1 : Small s1 := good_num _ _ _ g_h hs0; intro a_r; refine ⟨fun ch ⟨e, g, hc⟩ => hc ▸ bad e (by simp only [pVote, pBind, g_h, gI_err g]), fun _ _ => hs1, fun r s2 g_r => ?_⟩; replace g_r := gI_ok g_r; have hs2 : Small s2 := good_num _ _ _ g_r hs1; intro a_s; refine ⟨fun ch ⟨e, g, hc⟩ => hc ▸ bad e (by simp only [pVote, pBind, g_h, g_r, gI_err g]), fun _ _ => hs2, fun s s3 g_s => ?_⟩; replace g_s := gI_ok g_s; have hs3 : Small s3 := good_num _ _ _ g_s hs2; intro a_has; refine ⟨fun ch ⟨e, g, hc⟩ => hc ▸ bad e (by simp only [pVote, pBind, g_h, g_r, g_s, gB_err g]), fun _ _ => hs3, fun has s4 g_has => ?_⟩; replace g_has := gB_ok g_has; have hs4 : Small s4 := good_flag _ _ _ g_has hs3; intro a_b; refine ⟨fun ch ⟨e, g, hc⟩ => hc ▸ bad e (by simp only [pVote, pBind, g_h, g_r, g_s, g_has, gI_err g]), fun _ _ => hs4, fun b s5 g_b => ?_⟩; replace g_b := gI_ok g_b; have hs5 : Small s5 := good_dig _ _ _ g_b hs4; intro a_f; refine ⟨fun ch ⟨e, g, hc⟩ => hc ▸ bad e (by simp only [pVote, pBind, g_h, g_r, g_s, g_has, g_b, gI_err g]), fun _ _ => hs5, fun f s6 g_f => ?_⟩; replace g_f := gI_ok g_f; have hs6 : Small s6 := good_num _ _ _ g_f hs5; refine ⟨⟨⟨h, r, s, has, b, f⟩, s6, by simp only [voteR, pVote, pBind, g_h, g_r, g_s, g_has, g_b, g_f], rfl⟩, fun w hw => ?_⟩; obtain ⟨⟨⟨⟨⟨⟨_, _⟩, _⟩, _⟩, _⟩, _⟩, _⟩ := hw; exact ⟨⟨h, r, s, has, b, f⟩, s6, rfl, by simp only [voteR, pVote, pBind, g_h, g_r, g_s, g_has, g_b, g_f], pDig_spec g_b⟩
def pHeader : ByteArray → Got HeaderD := pBind pNum fun c => pBind pNum fun h => pBind pDig fun p => pBind pDig fun t => pBind pDig fun g => pBind pDig fun s => pBind pDig fun r => pBind pDig fun b => pBind pNum fun o => fun z => .ok (⟨c, h, p, t, g, s, r, b, o⟩, z)
theorem good_header : Good pHeader := by unfold pHeader; exact good_bind good_num fun _ => good_bind good_num fun _ => good_bind good_dig fun _ => good_bind good_dig fun _ => good_bind good_dig fun _ => good_bind good_dig fun _ => good_bind good_dig fun _ => good_bind good_dig fun _ => good_bind good_num fun _ => good_ok _
def headerR : Rdr HeaderD := { us := fun x => [.i x.c, .i x.h, .i x.p, .i x.t, .i x.g, .i x.s, .i x.r, .i x.b, .i x.o], cells := fun x => x.cells, strip := fun x => x, held := fun w x => x.ok, p := pHeader }
def cfg_pheader : Cfg := { con := [(58, 0), (150, 0)], lents := [(58, [(0, 208)]), (150, [(0, 208)])], mine := [(0, 208)], pans := [58, 150] }
def vcd_pheader : { v : VC // vcOf Tryz.prog cfg_pheader 90 = v } := by refine ⟨?v, ?h⟩; rotate_left; conv => lhs; reduce
theorem vce_pheader : vcOf Tryz.prog cfg_pheader 90 = vcd_pheader.1 := vcd_pheader.2
set_option linter.unusedVariables false in
theorem pheader_ok : KeepsL Tryz.prog 90 (elemC headerR) cfg_pheader.mine := by
 refine keepsL_v Tryz.func90 cfg_pheader vce_pheader [.p, .s] (elemC headerR) [(58, PNumS), (150, PDigS)] ⟨pnum_ok, pdig_ok, trivial⟩ (by kernel_rfl) (fun _ _ _ h => h) ?_; intro x0 s0 w hp; refine ⟨[], vc_use ?Q ?h ?g⟩
 case h => intro O C s I b; conv => lhs; reduce
 dsimp only [std]; simp only [ctrOf, invOf, List.lookup, Nat.reduceBEq, Option.getD_some, Int.reduceOfNat, Int.reduceNegSucc]; have hs0 : Small s0 := hp; have bad : ∀ e, pHeader s0 = .error e → (elemC headerR).pan [.p x0, .s s0] (stopCh e) := fun e h => ⟨e, h, rfl⟩
 simp only [rdC, PNumS, numF, PDigS, digF]; intro a_c; refine ⟨fun ch ⟨e, g, hc⟩ => hc ▸ bad e (by simp only [pHeader, pBind, gI_err g]), fun _ _ => hs0, fun c s1 g_c => ?_⟩; replace g_c := gI_ok g_c; have hs1 : Small s1 := good_num _ _ _ g_c hs0; intro a_h; refine ⟨fun ch ⟨e, g, hc⟩ => hc ▸ bad e (by simp only [pHeader, pBind, g_c, gI_err g]), fun _ _ => hs1, fun h s2 g_h => ?_⟩; replace g_h := gI_ok g_h; have hs2 : Small s2 := good_num _ _ _ g_h hs1; intro a_p; refine ⟨fun ch ⟨e, g, hc⟩ => hc ▸ bad e (by simp only [pHeader, pBind, g_c, g_h, gI_err g]), fun _ _ => hs2, fun p s3 g_p => ?_⟩; replace g_p := gI_ok g_p; have hs3 : Small s3 := good_dig _ _ _ g_p hs2; intro a_t; refine ⟨fun ch ⟨e, g, hc⟩ => hc ▸ bad e (by simp only [pHeader, pBind, g_c, g_h, g_p, gI_err g]), fun _ _ => hs3, fun t s4 g_t => ?_⟩; replace g_t := gI_ok g_t; have hs4 : Small s4 := good_dig _ _ _ g_t hs3; intro a_g; refine ⟨fun ch ⟨e, g, hc⟩ => hc ▸ bad e (by simp only [pHeader, pBind, g_c, g_h, g_p, g_t, gI_err g]), fun _ _ => hs4, fun g s5 g_g => ?_⟩; replace g_g := gI_ok g_g; have hs5 : Small s5 := good_dig _ _ _ g_g hs4; intro a_s; refine ⟨fun ch ⟨e, g, hc⟩ => hc ▸ bad e (by simp only [pHeader, pBind, g_c, g_h, g_p, g_t, g_g, gI_err g]), fun _ _ => hs5, fun s s6 g_s => ?_⟩; replace g_s := gI_ok g_s; have hs6 : Small s6 := good_dig _ _ _ g_s hs5; intro a_r; refine ⟨fun ch ⟨e, g, hc⟩ => hc ▸ bad e (by simp only [pHeader, pBind, g_c, g_h, g_p, g_t, g_g, g_s, gI_err g]), fun _ _ => hs6, fun r s7 g_r => ?_⟩; replace g_r := gI_ok g_r; have hs7 : Small s7 := good_dig _ _ _ g_r hs6; intro a_b; refine ⟨fun ch ⟨e, g, hc⟩ => hc ▸ bad e (by simp only [pHeader, pBind, g_c, g_h, g_p, g_t, g_g, g_s, g_r, gI_err g]), fun _ _ => hs7, fun b s8 g_b => ?_⟩; replace g_b := gI_ok g_b; have hs8 : Small s8 := good_dig _ _ _ g_b hs7; intro a_o; refine ⟨fun ch ⟨e, g, hc⟩ => hc ▸ bad e (by simp only [pHeader, pBind, g_c, g_h, g_p, g_t, g_g, g_s, g_r, g_b, gI_err g]), fun _ _ => hs8, fun o s9 g_o => ?_⟩
 replace g_o := gI_ok g_o; have hs9 : Small s9 := good_num _ _ _ g_o hs8; refine ⟨⟨⟨c, h, p, t, g, s, r, b, o⟩, s9, by simp only [headerR, pHeader, pBind, g_c, g_h, g_p, g_t, g_g, g_s, g_r, g_b, g_o], rfl⟩, fun w hw => ?_⟩; obtain ⟨⟨⟨⟨⟨⟨⟨⟨⟨_, _⟩, _⟩, _⟩, _⟩, _⟩, _⟩, _⟩, _⟩, _⟩ := hw; exact ⟨⟨c, h, p, t, g, s, r, b, o⟩, s9, rfl, by simp only [headerR, pHeader, pBind, g_c, g_h, g_p, g_t, g_g, g_s, g_r, g_b, g_o], ⟨pDig_spec g_p, pDig_spec g_t, pDig_spec g_g, pDig_spec g_s, pDig_spec g_r, pDig_spec g_b⟩⟩
def pTurn : ByteArray → Got TurnD := pBind (pUpTo 287) fun p => pBind pDig fun d => fun z => .ok (⟨p, d⟩, z)
theorem good_turn : Good pTurn := by unfold pTurn; exact good_bind (good_upto _) fun _ => good_bind good_dig fun _ => good_ok _
def turnR : Rdr TurnD := { us := fun x => [.i x.p, .i x.d], cells := fun x => x.cells, strip := fun x => x, held := fun w x => x.ok, p := pTurn }
def cfg_pturn : Cfg := { con := [(138, 0), (150, 0)], lents := [(138, [(0, 208)]), (150, [(0, 208)])], mine := [(0, 208)], pans := [138, 150] }
def vcd_pturn : { v : VC // vcOf Tryz.prog cfg_pturn 172 = v } := by refine ⟨?v, ?h⟩; rotate_left; conv => lhs; reduce
theorem vce_pturn : vcOf Tryz.prog cfg_pturn 172 = vcd_pturn.1 := vcd_pturn.2
set_option linter.unusedVariables false in
theorem pturn_ok : KeepsL Tryz.prog 172 (elemC turnR) cfg_pturn.mine := by
 refine keepsL_v Tryz.func172 cfg_pturn vce_pturn [.p, .s] (elemC turnR) [(138, PUpToS), (150, PDigS)] ⟨pupto_ok, pdig_ok, trivial⟩ (by kernel_rfl) (fun _ _ _ h => h) ?_; intro x0 s0 w hp; refine ⟨[], vc_use ?Q ?h ?g⟩
 case h => intro O C s I b; conv => lhs; reduce
 dsimp only [std]; simp only [ctrOf, invOf, List.lookup, Nat.reduceBEq, Option.getD_some, Int.reduceOfNat, Int.reduceNegSucc]; have hs0 : Small s0 := hp; have bad : ∀ e, pTurn s0 = .error e → (elemC turnR).pan [.p x0, .s s0] (stopCh e) := fun e h => ⟨e, h, rfl⟩
 simp only [rdC, PDigS, digF, PUpToS, upToF]; intro a_p; refine ⟨fun ch ⟨e, g, hc⟩ => hc ▸ bad e (by simp only [pTurn, pBind, gI_err g]), fun _ _ => hs0, fun p s1 g_p => ?_⟩; replace g_p := gI_ok g_p; have hs1 : Small s1 := good_upto _ _ _ _ g_p hs0; intro a_d; refine ⟨fun ch ⟨e, g, hc⟩ => hc ▸ bad e (by simp only [pTurn, pBind, g_p, gI_err g]), fun _ _ => hs1, fun d s2 g_d => ?_⟩; replace g_d := gI_ok g_d; have hs2 : Small s2 := good_dig _ _ _ g_d hs1; refine ⟨⟨⟨p, d⟩, s2, by simp only [turnR, pTurn, pBind, g_p, g_d], rfl⟩, fun w hw => ?_⟩; obtain ⟨⟨_, _⟩, _⟩ := hw; exact ⟨⟨p, d⟩, s2, rfl, by simp only [turnR, pTurn, pBind, g_p, g_d], pDig_spec g_d⟩
def pSeat : ByteArray → Got Seat := pBind pNum fun who => pBind pNum fun weight => fun z => .ok (⟨who, weight⟩, z)
theorem good_seat : Good pSeat := by unfold pSeat; exact good_bind good_num fun _ => good_bind good_num fun _ => good_ok _
def seatR : Rdr Seat := { us := fun x => [.i x.who, .i x.weight], cells := fun x => seatCells x, strip := fun x => x, held := fun w x => True, p := pSeat }
def cfg_pseat : Cfg := { con := [(58, 0)], lents := [(58, [(0, 208)])], mine := [(0, 208)], pans := [58] }
def vcd_pseat : { v : VC // vcOf Tryz.prog cfg_pseat 166 = v } := by refine ⟨?v, ?h⟩; rotate_left; conv => lhs; reduce
theorem vce_pseat : vcOf Tryz.prog cfg_pseat 166 = vcd_pseat.1 := vcd_pseat.2
set_option linter.unusedVariables false in
theorem pseat_ok : KeepsL Tryz.prog 166 (elemC seatR) cfg_pseat.mine := by
 refine keepsL_v Tryz.func166 cfg_pseat vce_pseat [.p, .s] (elemC seatR) [(58, PNumS)] ⟨pnum_ok, trivial⟩ (by kernel_rfl) (fun _ _ _ h => h) ?_
 intro x0 s0 w hp; refine ⟨[], vc_use ?Q ?h ?g⟩
 case h => intro O C s I b; conv => lhs; reduce
 dsimp only [std]; simp only [ctrOf, invOf, List.lookup, Nat.reduceBEq, Option.getD_some, Int.reduceOfNat, Int.reduceNegSucc]; have hs0 : Small s0 := hp; have bad : ∀ e, pSeat s0 = .error e → (elemC seatR).pan [.p x0, .s s0] (stopCh e) := fun e h => ⟨e, h, rfl⟩
 simp only [rdC, PNumS, numF]; intro a_who; refine ⟨fun ch ⟨e, g, hc⟩ => hc ▸ bad e (by simp only [pSeat, pBind, gI_err g]), fun _ _ => hs0, fun who s1 g_who => ?_⟩; replace g_who := gI_ok g_who; have hs1 : Small s1 := good_num _ _ _ g_who hs0; intro a_weight; refine ⟨fun ch ⟨e, g, hc⟩ => hc ▸ bad e (by simp only [pSeat, pBind, g_who, gI_err g]), fun _ _ => hs1, fun weight s2 g_weight => ?_⟩; replace g_weight := gI_ok g_weight; have hs2 : Small s2 := good_num _ _ _ g_weight hs1; refine ⟨⟨⟨who, weight⟩, s2, by simp only [seatR, pSeat, pBind, g_who, g_weight], rfl⟩, fun w hw => ?_⟩; obtain ⟨⟨_, _⟩, _⟩ := hw; exact ⟨⟨who, weight⟩, s2, rfl, by simp only [seatR, pSeat, pBind, g_who, g_weight], trivial⟩
def pGuilt : ByteArray → Got GuiltD := pBind pVote fun a => pBind pVote fun b => fun z => .ok (⟨a, b⟩, z)
theorem good_guilt : Good pGuilt := by unfold pGuilt; exact good_bind good_vote fun _ => good_bind good_vote fun _ => good_ok _
def guiltR : Rdr GuiltD := { us := fun x => [.i x.a.h, .i x.a.r, .i x.a.s, .b x.a.has, .i x.a.b, .i x.a.f, .i x.b.h, .i x.b.r, .i x.b.s, .b x.b.has, .i x.b.b, .i x.b.f], cells := fun x => x.cells, strip := fun x => x, held := fun w x => x.ok, p := pGuilt }
def cfg_pguilt : Cfg := { con := [(72, 0)], lents := [(72, [(0, 208)])], mine := [(0, 208)], pans := [72] }
def vcd_pguilt : { v : VC // vcOf Tryz.prog cfg_pguilt 108 = v } := by refine ⟨?v, ?h⟩; rotate_left; conv => lhs; reduce
theorem vce_pguilt : vcOf Tryz.prog cfg_pguilt 108 = vcd_pguilt.1 := vcd_pguilt.2
set_option linter.unusedVariables false in
theorem pguilt_ok : KeepsL Tryz.prog 108 (elemC guiltR) cfg_pguilt.mine := by
 refine keepsL_v Tryz.func108 cfg_pguilt vce_pguilt [.p, .s] (elemC guiltR) [(72, (elemC voteR))] ⟨pvote_ok, trivial⟩ (by kernel_rfl) (fun _ _ _ h => h) ?_; intro x0 s0 w hp; refine ⟨[], vc_use ?Q ?h ?g⟩
 case h => intro O C s I b; conv => lhs; reduce
 dsimp only [std]; simp only [ctrOf, invOf, List.lookup, Nat.reduceBEq, Option.getD_some, Int.reduceOfNat, Int.reduceNegSucc]; have hs0 : Small s0 := hp; have bad : ∀ e, pGuilt s0 = .error e → (elemC guiltR).pan [.p x0, .s s0] (stopCh e) := fun e h => ⟨e, h, rfl⟩
 intro a_a; refine ⟨fun ch ⟨e, g, hc⟩ => hc ▸ bad e (by simp only [pGuilt, pBind, show pVote s0 = _ from g]), fun _ _ => hs0, fun l_a_0 l_a_1 l_a_2 l_a_3 l_a_4 l_a_5 s1 ⟨y_a, z_a, g_a, gl⟩ => ?_⟩; obtain rfl : s1 = z_a := by simpa using gl
 replace g_a : pVote s0 = .ok (y_a, s1) := g_a; have hs1 : Small s1 := good_vote _ _ _ g_a hs0; intro a_b; refine ⟨fun ch ⟨e, g, hc⟩ => hc ▸ bad e (by simp only [pGuilt, pBind, g_a, show pVote s1 = _ from g]), fun _ _ => hs1, fun l_b_0 l_b_1 l_b_2 l_b_3 l_b_4 l_b_5 s2 ⟨y_b, z_b, g_b, gl⟩ => ?_⟩; obtain rfl : s2 = z_b := by simpa using gl
 replace g_b : pVote s1 = .ok (y_b, s2) := g_b; have hs2 : Small s2 := good_vote _ _ _ g_b hs1; refine ⟨⟨⟨y_a, y_b⟩, s2, by simp only [guiltR, pGuilt, pBind, g_a, g_b], rfl⟩, fun w hw => ?_⟩; obtain ⟨⟨_, ⟨x_a, w_a, e_a, p_a, h_a⟩⟩, ⟨x_b, w_b, e_b, p_b, h_b⟩⟩ := hw; cases e_a; replace p_a : pVote _ = .ok (_, _) := p_a; cases e_b; replace p_b : pVote _ = .ok (_, _) := p_b; exact ⟨⟨x_a, x_b⟩, s2, rfl, by simp only [guiltR, pGuilt, pBind, p_a, p_b]; first | done | rfl | simp [voteR], ⟨h_a, h_b⟩⟩
def cfg_gnum : Cfg := { con := [(138, 0), (58, 0)], loops := [(4, { slots := [8, 13], blks := [0], rows := [8], extra := [.var 5, .var 6] })], rows := [(8, 3)], lents := [(138, [(0, 208)]), (58, [(0, 208)])], mine := [(0, 208)], pans := [138, 58], fns := [(18, 58)] }
def vcd_gnum : { v : VC // vcOf Tryz.prog cfg_gnum 161 = v } := by refine ⟨?v, ?h⟩; rotate_left; conv => lhs; reduce
theorem vce_gnum : vcOf Tryz.prog cfg_gnum 161 = vcd_gnum.1 := vcd_gnum.2
theorem getsnum_ok : KeepsL Tryz.prog 161 (listC numR 58 1) cfg_gnum.mine := by
 refine keepsL_v Tryz.func161 cfg_gnum vce_gnum [.p, .i, .v, .s] (listC numR 58 1) [(138, PUpToS), (58, PNumS)] ⟨pupto_ok, pnum_ok, trivial⟩ (by kernel_rfl) (fun _ _ _ h => h) ?_; intro x0 x1 x2 x3 w hp; refine ⟨[(4, listInv numR)], vc_use ?Q ?h ?g⟩
 case h => intro O C s I b; conv => lhs; reduce
 dsimp only [std]; simp only [ctrOf, invOf, List.lookup, Nat.reduceBEq, Option.getD_some, Int.reduceOfNat, Int.reduceNegSucc]; obtain ⟨hs, rfl, hm⟩ : Small x3 ∧ x2 = .func (.func 58) #[] #[] ∧ x1 ≤ 1000000 := hp; simp only [PUpToS, PNumS, rdC, upToF, numF]; intro x4; refine ⟨fun ch ⟨e, h1, h2⟩ => h2 ▸ list_pan1 (gI_err h1) _, fun _ _ => hs, fun x5 x6 h1 => ?_⟩; have h1 := gI_ok h1; obtain ⟨i1, i2⟩ := list_init (R := numR) h1 hs hm; refine ⟨i1, fun w _ => i2 w, fun m xs k sk hi => ⟨fun hk => ⟨trivial, fun a => ⟨fun ch ⟨e, g1, g2⟩ => g2 ▸ list_pan2 h1 hi hk (gI_err g1) _, fun _ _ => hi.2.2.2.2.1, fun x s' g => ?_⟩⟩, fun hk A c => ?_⟩⟩
 ·have g := gI_ok g; obtain ⟨n1, n2, n3, n4, n5⟩ := list_next (R := numR) hi hk g (good_num _ _ _ g hi.2.2.2.2.1) 8 (by decide) (xs ++ [Value.int .i64 x]); exact ⟨n1, n2, n3, n4, fun w ⟨⟨_, f⟩, _⟩ => list_step (R := numR) hi.1 f g trivial, n5 _, trivial⟩
 ·obtain ⟨f1, f2⟩ := list_fin (R := numR) (A := A) (c := c) (a := x0) (fg := 58) (size := 1) h1 hi hk (.func (.func 58) #[] #[]); exact ⟨f1, fun w ⟨⟨_, f⟩, o⟩ => f2 f o⟩
def cfg_gseat : Cfg := { con := [(138, 0), (166, 0)], loops := [(4, { slots := [8, 13], blks := [0], rows := [8], extra := [.var 5, .var 6] })], rows := [(8, 226)], lents := [(138, [(0, 208)]), (166, [(0, 208)])], mine := [(0, 208)], pans := [138, 166], fns := [(18, 166)] }
def vcd_gseat : { v : VC // vcOf Tryz.prog cfg_gseat 165 = v } := by refine ⟨?v, ?h⟩; rotate_left; conv => lhs; reduce
theorem vce_gseat : vcOf Tryz.prog cfg_gseat 165 = vcd_gseat.1 := vcd_gseat.2
theorem getsseat_ok : KeepsL Tryz.prog 165 (listC seatR 166 2) cfg_gseat.mine := by
 refine keepsL_v Tryz.func165 cfg_gseat vce_gseat [.p, .i, .v, .s] (listC seatR 166 2) [(138, PUpToS), (166, elemC seatR)] ⟨pupto_ok, pseat_ok, trivial⟩ (by kernel_rfl) (fun _ _ _ h => h) ?_; intro x0 x1 x2 x3 w hp; refine ⟨[(4, listInv seatR)], vc_use ?Q ?h ?g⟩
 case h => intro O C s I b; conv => lhs; reduce
 dsimp only [std]; simp only [ctrOf, invOf, List.lookup, Nat.reduceBEq, Option.getD_some, Int.reduceOfNat, Int.reduceNegSucc]; obtain ⟨hs, rfl, hm⟩ : Small x3 ∧ x2 = .func (.func 166) #[] #[] ∧ x1 ≤ 1000000 := hp; simp only [PUpToS, rdC, upToF]; intro x4; refine ⟨fun ch ⟨e, h1, h2⟩ => h2 ▸ list_pan1 (gI_err h1) _, fun _ _ => hs, fun x5 x6 h1 => ?_⟩; have h1 := gI_ok h1; obtain ⟨i1, i2⟩ := list_init (R := seatR) h1 hs hm; refine ⟨i1, fun w _ => i2 w, fun m xs k sk hi => ⟨fun hk => ⟨trivial, fun a => ⟨fun ch ⟨e, g1, g2⟩ => g2 ▸ list_pan2 h1 hi hk g1 _, fun _ _ => hi.2.2.2.2.1, fun l0 l1 s' ⟨y, z, g, gl⟩ => ?_⟩⟩, fun hk A c => ?_⟩⟩
 ·obtain rfl : s' = z := by simpa using gl
  obtain ⟨n1, n2, n3, n4, n5⟩ := list_next (R := seatR) hi hk g (good_seat _ _ _ g hi.2.2.2.2.1) 16 (by decide) _; refine ⟨n1, n2, n3, n4, fun w ⟨⟨_, f⟩, ⟨x, z, e1, e2, e3⟩⟩ => ?_, n5 _, trivial⟩; cases e1; exact list_step (R := seatR) hi.1 f e2 e3
 ·obtain ⟨f1, f2⟩ := list_fin (R := seatR) (A := A) (c := c) (a := x0) (fg := 166) (size := 2) h1 hi hk (.func (.func 166) #[] #[]); exact ⟨f1, fun w ⟨⟨_, f⟩, o⟩ => f2 f o⟩
def cfg_gturn : Cfg := { con := [(138, 0), (172, 0)], loops := [(4, { slots := [8, 13], blks := [0], rows := [8], extra := [.var 5, .var 6] })], rows := [(8, 233)], lents := [(138, [(0, 208)]), (172, [(0, 208)])], mine := [(0, 208)], pans := [138, 172], fns := [(18, 172)] }
def vcd_gturn : { v : VC // vcOf Tryz.prog cfg_gturn 171 = v } := by refine ⟨?v, ?h⟩; rotate_left; conv => lhs; reduce
theorem vce_gturn : vcOf Tryz.prog cfg_gturn 171 = vcd_gturn.1 := vcd_gturn.2
theorem getsturn_ok : KeepsL Tryz.prog 171 (listC turnR 172 2) cfg_gturn.mine := by
 refine keepsL_v Tryz.func171 cfg_gturn vce_gturn [.p, .i, .v, .s] (listC turnR 172 2) [(138, PUpToS), (172, elemC turnR)] ⟨pupto_ok, pturn_ok, trivial⟩ (by kernel_rfl) (fun _ _ _ h => h) ?_; intro x0 x1 x2 x3 w hp; refine ⟨[(4, listInv turnR)], vc_use ?Q ?h ?g⟩
 case h => intro O C s I b; conv => lhs; reduce
 dsimp only [std]; simp only [ctrOf, invOf, List.lookup, Nat.reduceBEq, Option.getD_some, Int.reduceOfNat, Int.reduceNegSucc]; obtain ⟨hs, rfl, hm⟩ : Small x3 ∧ x2 = .func (.func 172) #[] #[] ∧ x1 ≤ 1000000 := hp; simp only [PUpToS, rdC, upToF]; intro x4; refine ⟨fun ch ⟨e, h1, h2⟩ => h2 ▸ list_pan1 (gI_err h1) _, fun _ _ => hs, fun x5 x6 h1 => ?_⟩; have h1 := gI_ok h1; obtain ⟨i1, i2⟩ := list_init (R := turnR) h1 hs hm; refine ⟨i1, fun w _ => i2 w, fun m xs k sk hi => ⟨fun hk => ⟨trivial, fun a => ⟨fun ch ⟨e, g1, g2⟩ => g2 ▸ list_pan2 h1 hi hk g1 _, fun _ _ => hi.2.2.2.2.1, fun l0 l1 s' ⟨y, z, g, gl⟩ => ?_⟩⟩, fun hk A c => ?_⟩⟩
 ·obtain rfl : s' = z := by simpa using gl
  obtain ⟨n1, n2, n3, n4, n5⟩ := list_next (R := turnR) hi hk g (good_turn _ _ _ g hi.2.2.2.2.1) 16 (by decide) _; refine ⟨n1, n2, n3, n4, fun w ⟨⟨_, f⟩, ⟨x, z, e1, e2, e3⟩⟩ => ?_, n5 _, trivial⟩; cases e1; exact list_step (R := turnR) hi.1 f e2 e3
 ·obtain ⟨f1, f2⟩ := list_fin (R := turnR) (A := A) (c := c) (a := x0) (fg := 172) (size := 2) h1 hi hk (.func (.func 172) #[] #[]); exact ⟨f1, fun w ⟨⟨_, f⟩, o⟩ => f2 f o⟩
def cfg_gguilt : Cfg := { con := [(138, 0), (108, 0)], loops := [(4, { slots := [8, 13], blks := [0], rows := [8], extra := [.var 5, .var 6] })], rows := [(8, 99)], lents := [(138, [(0, 208)]), (108, [(0, 208)])], mine := [(0, 208)], pans := [138, 108], fns := [(18, 108)] }
def vcd_gguilt : { v : VC // vcOf Tryz.prog cfg_gguilt 248 = v } := by refine ⟨?v, ?h⟩; rotate_left; conv => lhs; reduce
theorem vce_gguilt : vcOf Tryz.prog cfg_gguilt 248 = vcd_gguilt.1 := vcd_gguilt.2
theorem getsguilt_ok : KeepsL Tryz.prog 248 (listC guiltR 108 12) cfg_gguilt.mine := by
 refine keepsL_v Tryz.func248 cfg_gguilt vce_gguilt [.p, .i, .v, .s] (listC guiltR 108 12) [(138, PUpToS), (108, elemC guiltR)] ⟨pupto_ok, pguilt_ok, trivial⟩ (by kernel_rfl) (fun _ _ _ h => h) ?_; intro x0 x1 x2 x3 w hp; refine ⟨[(4, listInv guiltR)], vc_use ?Q ?h ?g⟩
 case h => intro O C s I b; conv => lhs; reduce
 dsimp only [std]; simp only [ctrOf, invOf, List.lookup, Nat.reduceBEq, Option.getD_some, Int.reduceOfNat, Int.reduceNegSucc]; obtain ⟨hs, rfl, hm⟩ : Small x3 ∧ x2 = .func (.func 108) #[] #[] ∧ x1 ≤ 1000000 := hp; simp only [PUpToS, rdC, upToF]; intro x4; refine ⟨fun ch ⟨e, h1, h2⟩ => h2 ▸ list_pan1 (gI_err h1) _, fun _ _ => hs, fun x5 x6 h1 => ?_⟩; have h1 := gI_ok h1; obtain ⟨i1, i2⟩ := list_init (R := guiltR) h1 hs hm; refine ⟨i1, fun w _ => i2 w, fun m xs k sk hi => ⟨fun hk => ⟨trivial, fun a => ⟨fun ch ⟨e, g1, g2⟩ => g2 ▸ list_pan2 h1 hi hk g1 _, fun _ _ => hi.2.2.2.2.1, fun l0 l1 l2 l3 l4 l5 l6 l7 l8 l9 l10 l11 s' ⟨y, z, g, gl⟩ => ?_⟩⟩, fun hk A c => ?_⟩⟩
 ·obtain rfl : s' = z := by simpa using gl
  obtain ⟨n1, n2, n3, n4, n5⟩ := list_next (R := guiltR) hi hk g (good_guilt _ _ _ g hi.2.2.2.2.1) 96 (by decide) _; refine ⟨n1, n2, n3, n4, fun w ⟨⟨_, f⟩, ⟨x, z, e1, e2, e3⟩⟩ => ?_, n5 _, trivial⟩; cases e1; exact list_step (R := guiltR) hi.1 f e2 e3
 ·obtain ⟨f1, f2⟩ := list_fin (R := guiltR) (A := A) (c := c) (a := x0) (fg := 108) (size := 12) h1 hi hk (.func (.func 108) #[] #[]); exact ⟨f1, fun w ⟨⟨_, f⟩, o⟩ => f2 f o⟩
def pText (most : Int) : ByteArray → Got ByteArray := pBind (pUpTo most) fun n => pTake n
theorem good_text (n : Int) : Good (pText n) := by
 intro s x r h hs; unfold pText pBind at h; split at h
 ·cases h
 ·next m t ht =>
  have := pUpTo_spec ht hs; exact (pTake_small h this.2.2 this.1).2.1
def rtextP : List U → Prop
 | [.p _, .i n, .s s] => Small s ∧ n ≤ 1000000
 | _ => False
def rtextF : List U → Except Int (List U)
 | [.p _, .i n, .s s] => gS (pText n s)
 | _ => .error 0
def PTextS : Ctr := rdC rtextP rtextF
def cfg_ptext : Cfg := { con := [(138, 0), (228, 0)], lents := [(138, [(0, 208)]), (228, [(0, 208)])], mine := [(0, 208)], pans := [138, 228] }
def vcd_ptext : { v : VC // vcOf Tryz.prog cfg_ptext 173 = v } := by refine ⟨?v, ?h⟩; rotate_left; conv => lhs; reduce
theorem vce_ptext : vcOf Tryz.prog cfg_ptext 173 = vcd_ptext.1 := vcd_ptext.2
theorem ptext_ok : KeepsL Tryz.prog 173 PTextS cfg_ptext.mine := by
 refine keepsL_v Tryz.func173 cfg_ptext vce_ptext [.p, .i, .s] PTextS [(138, PUpToS), (228, PTakeS)] ⟨pupto_ok, ptake_ok, trivial⟩ (by kernel_rfl) (fun _ _ _ h => h) ?_; intro x0 x1 s0 w hp; refine ⟨[], vc_use ?Q ?h ?g⟩
 case h => intro O C s I b; conv => lhs; reduce
 dsimp only [std]; simp only [ctrOf, invOf, List.lookup, Nat.reduceBEq, Option.getD_some, Int.reduceOfNat, Int.reduceNegSucc]; obtain ⟨hs0, hm⟩ : Small s0 ∧ x1 ≤ 1000000 := hp; have bad : ∀ e, pText x1 s0 = .error e → PTextS.pan [.p x0, .i x1, .s s0] (stopCh e) := fun e h => ⟨e, by show gS _ = _; rw [h]; rfl, rfl⟩
 simp only [rdC, PUpToS, upToF, PTakeS, takeF]; intro a1; refine ⟨fun ch ⟨e, g, hc⟩ => hc ▸ bad e (by simp only [pText, pBind, gI_err g]), fun _ _ => hs0, fun n s1 g1 => ?_⟩; replace g1 := gI_ok g1; obtain ⟨h0, h1, hs1⟩ := pUpTo_spec g1 hs0; intro a2; refine ⟨fun ch ⟨e, g, hc⟩ => hc ▸ bad e (by simp only [pText, pBind, g1, gS_err g]), fun _ _ => ⟨h0, hs1⟩, fun t s2 g2 => ?_⟩; replace g2 := gS_ok g2; refine ⟨?_, fun _ _ => trivial⟩; show gS _ = _; simp only [pText, pBind, g1, g2]; rfl
def pCert : ByteArray → Got CertD := pBind pNum fun h => pBind pNum fun r => pBind pNum fun s => pBind pFlag fun has => pBind pDig fun b => pBind (pList 7 pNum) fun froms => fun z => .ok (⟨h, r, s, has, b, froms, none, 0⟩, z)
theorem good_cert : Good pCert := by unfold pCert; exact good_bind good_num fun _ => good_bind good_num fun _ => good_bind good_num fun _ => good_bind good_flag fun _ => good_bind good_dig fun _ => good_bind (good_list _ good_num) fun _ => good_ok _
def certR : Rdr CertD := { us := fun x => [.i x.h, .i x.r, .i x.s, .b x.has, .i x.b, .p x.fa, .n x.froms.length, .n x.fc], cells := fun x => x.cells, strip := fun x => { x with fa := none, fc := 0 }, held := fun w x => x.held w w.heap.size, p := pCert }
def cfg_pcert : Cfg := { con := [(58, 0), (149, 0), (150, 0), (161, 0)], lents := [(58, [(0, 208)]), (149, [(0, 208)]), (150, [(0, 208)]), (161, [(0, 208)])], mine := [(0, 208)], pans := [58, 149, 150, 161] }
def vcd_pcert : { v : VC // vcOf Tryz.prog cfg_pcert 78 = v } := by refine ⟨?v, ?h⟩; rotate_left; conv => lhs; reduce
theorem vce_pcert : vcOf Tryz.prog cfg_pcert 78 = vcd_pcert.1 := vcd_pcert.2
set_option linter.unusedVariables false in
theorem pcert_ok : KeepsL Tryz.prog 78 (elemC certR) cfg_pcert.mine := by
 refine keepsL_v Tryz.func78 cfg_pcert vce_pcert [.p, .s] (elemC certR) [(58, PNumS), (149, PFlagS), (150, PDigS), (161, (listC numR 58 1))] ⟨pnum_ok, pflag_ok, pdig_ok, getsnum_ok, trivial⟩ (by kernel_rfl) (fun _ _ _ h => h) ?_; intro x0 s0 w hp; refine ⟨[], vc_use ?Q ?h ?g⟩
 case h => intro O C s I b; conv => lhs; reduce
 dsimp only [std]; simp only [ctrOf, invOf, List.lookup, Nat.reduceBEq, Option.getD_some, Int.reduceOfNat, Int.reduceNegSucc]; have hs0 : Small s0 := hp; have bad : ∀ e, pCert s0 = .error e → (elemC certR).pan [.p x0, .s s0] (stopCh e) := fun e h => ⟨e, h, rfl⟩
 simp only [rdC, PNumS, numF, PFlagS, flagF, PDigS, digF]; intro a_h; refine ⟨fun ch ⟨e, g, hc⟩ => hc ▸ bad e (by simp only [pCert, pBind, gI_err g]), fun _ _ => hs0, fun h s1 g_h => ?_⟩; replace g_h := gI_ok g_h; have hs1 : Small s1 := good_num _ _ _ g_h hs0; intro a_r; refine ⟨fun ch ⟨e, g, hc⟩ => hc ▸ bad e (by simp only [pCert, pBind, g_h, gI_err g]), fun _ _ => hs1, fun r s2 g_r => ?_⟩; replace g_r := gI_ok g_r; have hs2 : Small s2 := good_num _ _ _ g_r hs1; intro a_s; refine ⟨fun ch ⟨e, g, hc⟩ => hc ▸ bad e (by simp only [pCert, pBind, g_h, g_r, gI_err g]), fun _ _ => hs2, fun s s3 g_s => ?_⟩; replace g_s := gI_ok g_s; have hs3 : Small s3 := good_num _ _ _ g_s hs2; intro a_has; refine ⟨fun ch ⟨e, g, hc⟩ => hc ▸ bad e (by simp only [pCert, pBind, g_h, g_r, g_s, gB_err g]), fun _ _ => hs3, fun has s4 g_has => ?_⟩; replace g_has := gB_ok g_has; have hs4 : Small s4 := good_flag _ _ _ g_has hs3; intro a_b; refine ⟨fun ch ⟨e, g, hc⟩ => hc ▸ bad e (by simp only [pCert, pBind, g_h, g_r, g_s, g_has, gI_err g]), fun _ _ => hs4, fun b s5 g_b => ?_⟩; replace g_b := gI_ok g_b; have hs5 : Small s5 := good_dig _ _ _ g_b hs4; intro a_froms; refine ⟨fun ch ⟨e, g, hc⟩ => hc ▸ bad e (by simp only [pCert, pBind, g_h, g_r, g_s, g_has, g_b, show pList 7 pNum s5 = _ from g]), fun _ _ => ⟨hs5, rfl, by decide⟩, fun a1_froms n_froms c1_froms s6 ⟨y_froms, g_froms, _⟩ => ?_⟩; replace g_froms : pList 7 pNum s5 = .ok (y_froms, s6) := g_froms; have hs6 : Small s6 := good_list _ good_num _ _ _ g_froms hs5; refine ⟨⟨⟨h, r, s, has, b, y_froms, none, 0⟩, s6, by simp only [certR, pCert, pBind, g_h, g_r, g_s, g_has, g_b, g_froms], rfl⟩, fun w hw => ?_⟩; obtain ⟨⟨⟨⟨⟨⟨_, _⟩, _⟩, _⟩, _⟩, _⟩, ⟨l_froms, q_froms, m_froms, r_froms, h_froms⟩⟩ := hw; subst m_froms; replace q_froms : pList 7 pNum _ = .ok (_, _) := q_froms
 exact ⟨⟨h, r, s, has, b, l_froms, a1_froms, c1_froms⟩, s6, rfl, by simp only [certR, pCert, pBind, g_h, g_r, g_s, g_has, g_b, q_froms]; first | done | rfl | simp [numR], ⟨pDig_spec g_b, ints_of r_froms, short_of q_froms⟩⟩
structure BenD where
 l : List Seat
 a : Option Addr
 c : Nat
def pBench : ByteArray → Got BenD := pBind (pList 7 pSeat) fun l => fun z => .ok (⟨l, none, 0⟩, z)
theorem good_bench : Good pBench := by unfold pBench; exact good_bind (good_list _ good_seat) fun _ => good_ok _
def benchR : Rdr BenD := { us := fun x => [.p x.a, .n x.l.length, .n x.c], cells := fun x => [.slice x.a x.l.length x.c], strip := fun x => { x with a := none, c := 0 }, held := fun w x => SeatsL w w.heap.size x.a x.l ∧ x.l.length ≤ maxLen, p := pBench }
def cfg_pbench : Cfg := { con := [(165, 0)], lents := [(165, [(0, 208)])], mine := [(0, 208)], pans := [165] }
def vcd_pbench : { v : VC // vcOf Tryz.prog cfg_pbench 84 = v } := by refine ⟨?v, ?h⟩; rotate_left; conv => lhs; reduce
theorem vce_pbench : vcOf Tryz.prog cfg_pbench 84 = vcd_pbench.1 := vcd_pbench.2
set_option linter.unusedVariables false in
theorem pbench_ok : KeepsL Tryz.prog 84 (elemC benchR) cfg_pbench.mine := by
 refine keepsL_v Tryz.func84 cfg_pbench vce_pbench [.p, .s] (elemC benchR) [(165, (listC seatR 166 2))] ⟨getsseat_ok, trivial⟩ (by kernel_rfl) (fun _ _ _ h => h) ?_; intro x0 s0 w hp; refine ⟨[], vc_use ?Q ?h ?g⟩
 case h => intro O C s I b; conv => lhs; reduce
 dsimp only [std]; simp only [ctrOf, invOf, List.lookup, Nat.reduceBEq, Option.getD_some, Int.reduceOfNat, Int.reduceNegSucc]; have hs0 : Small s0 := hp; have bad : ∀ e, pBench s0 = .error e → (elemC benchR).pan [.p x0, .s s0] (stopCh e) := fun e h => ⟨e, h, rfl⟩
 intro a_l; refine ⟨fun ch ⟨e, g, hc⟩ => hc ▸ bad e (by simp only [pBench, pBind, show pList 7 pSeat s0 = _ from g]), fun _ _ => ⟨hs0, rfl, by decide⟩, fun a1_l n_l c1_l s1 ⟨y_l, g_l, _⟩ => ?_⟩; replace g_l : pList 7 pSeat s0 = .ok (y_l, s1) := g_l; have hs1 : Small s1 := good_list _ good_seat _ _ _ g_l hs0; refine ⟨⟨⟨y_l, none, 0⟩, s1, by simp only [benchR, pBench, pBind, g_l], rfl⟩, fun w hw => ?_⟩; obtain ⟨_, ⟨l_l, q_l, m_l, r_l, h_l⟩⟩ := hw; subst m_l; replace q_l : pList 7 pSeat _ = .ok (_, _) := q_l; exact ⟨⟨l_l, a1_l, c1_l⟩, s1, rfl, by simp only [benchR, pBench, pBind, q_l]; first | done | rfl | simp [seatR], ⟨r_l, short_of q_l⟩⟩
def pProof : ByteArray → Got ProofD := pBind (pList 288 pTurn) fun turns => pBind pFlag fun leaf => pBind (pText 32) fun key => pBind (pText 4096) fun value => fun z => .ok (⟨turns, none, 0, leaf, key.data.toList, value.data.toList⟩, z)
theorem good_proof : Good pProof := by unfold pProof; exact good_bind (good_list _ good_turn) fun _ => good_bind good_flag fun _ => good_bind (good_text _) fun _ => good_bind (good_text _) fun _ => good_ok _
def proofR : Rdr ProofD := { us := fun x => [.p x.ta, .n x.turns.length, .n x.tc, .b x.leaf, .s (bs x.key), .s (bs x.value)], cells := fun x => x.cells, strip := fun x => { x with ta := none, tc := 0 }, held := fun w x => x.held w w.heap.size, p := pProof }
def cfg_pproof : Cfg := { con := [(171, 0), (149, 0), (173, 0)], lents := [(171, [(0, 208)]), (149, [(0, 208)]), (173, [(0, 208)])], mine := [(0, 208)], pans := [171, 149, 173] }
def vcd_pproof : { v : VC // vcOf Tryz.prog cfg_pproof 96 = v } := by refine ⟨?v, ?h⟩; rotate_left; conv => lhs; reduce
theorem vce_pproof : vcOf Tryz.prog cfg_pproof 96 = vcd_pproof.1 := vcd_pproof.2
set_option linter.unusedVariables false in
theorem pproof_ok : KeepsL Tryz.prog 96 (elemC proofR) cfg_pproof.mine := by
 refine keepsL_v Tryz.func96 cfg_pproof vce_pproof [.p, .s] (elemC proofR) [(171, (listC turnR 172 2)), (149, PFlagS), (173, PTextS)] ⟨getsturn_ok, pflag_ok, ptext_ok, trivial⟩ (by kernel_rfl) (fun _ _ _ h => h) ?_; intro x0 s0 w hp; refine ⟨[], vc_use ?Q ?h ?g⟩
 case h => intro O C s I b; conv => lhs; reduce
 dsimp only [std]; simp only [ctrOf, invOf, List.lookup, Nat.reduceBEq, Option.getD_some, Int.reduceOfNat, Int.reduceNegSucc]; have hs0 : Small s0 := hp; have bad : ∀ e, pProof s0 = .error e → (elemC proofR).pan [.p x0, .s s0] (stopCh e) := fun e h => ⟨e, h, rfl⟩
 simp only [rdC, PFlagS, flagF, PTextS, rtextF]; intro a_turns; refine ⟨fun ch ⟨e, g, hc⟩ => hc ▸ bad e (by simp only [pProof, pBind, show pList 288 pTurn s0 = _ from g]), fun _ _ => ⟨hs0, rfl, by decide⟩, fun a1_turns n_turns c1_turns s1 ⟨y_turns, g_turns, _⟩ => ?_⟩; replace g_turns : pList 288 pTurn s0 = .ok (y_turns, s1) := g_turns; have hs1 : Small s1 := good_list _ good_turn _ _ _ g_turns hs0; intro a_leaf; refine ⟨fun ch ⟨e, g, hc⟩ => hc ▸ bad e (by simp only [pProof, pBind, g_turns, gB_err g]), fun _ _ => hs1, fun leaf s2 g_leaf => ?_⟩; replace g_leaf := gB_ok g_leaf; have hs2 : Small s2 := good_flag _ _ _ g_leaf hs1; intro a_key; refine ⟨fun ch ⟨e, g, hc⟩ => hc ▸ bad e (by simp only [pProof, pBind, g_turns, g_leaf, gS_err g]), fun _ _ => ⟨hs2, by decide⟩, fun t_key s3 g_key => ?_⟩; replace g_key := gS_ok g_key; have hs3 : Small s3 := good_text _ _ _ _ g_key hs2; intro a_value; refine ⟨fun ch ⟨e, g, hc⟩ => hc ▸ bad e (by simp only [pProof, pBind, g_turns, g_leaf, g_key, gS_err g]), fun _ _ => ⟨hs3, by decide⟩, fun t_value s4 g_value => ?_⟩; replace g_value := gS_ok g_value; have hs4 : Small s4 := good_text _ _ _ _ g_value hs3; refine ⟨⟨⟨y_turns, none, 0, leaf, t_key.data.toList, t_value.data.toList⟩, s4, by simp only [proofR, pProof, pBind, g_turns, g_leaf, g_key, g_value], rfl⟩, fun w hw => ?_⟩; obtain ⟨⟨⟨⟨_, ⟨l_turns, q_turns, m_turns, r_turns, h_turns⟩⟩, _⟩, _⟩, _⟩ := hw; subst m_turns; replace q_turns : pList 288 pTurn _ = .ok (_, _) := q_turns; have b_key := bs_back t_key; have b_value := bs_back t_value; exact ⟨⟨l_turns, a1_turns, c1_turns, leaf, t_key.data.toList, t_value.data.toList⟩, s4, by simp only [proofR, b_key, b_value]; rfl, by simp only [proofR, pProof, pBind, q_turns, g_leaf, g_key, g_value]; first | done | rfl | simp [turnR], ⟨r_turns, short_of q_turns, h_turns⟩⟩
def pSight : ByteArray → Got SightD := pBind pHeader fun header => pBind pCert fun cert => pBind pBench fun bn => fun z => .ok (⟨header, cert, bn.l, bn.a, bn.c⟩, z)
theorem good_sight : Good pSight := by unfold pSight; exact good_bind good_header fun _ => good_bind good_cert fun _ => good_bind good_bench fun _ => good_ok _
def sightR : Rdr SightD := { us := fun x => [.i x.header.c, .i x.header.h, .i x.header.p, .i x.header.t, .i x.header.g, .i x.header.s, .i x.header.r, .i x.header.b, .i x.header.o, .i x.cert.h, .i x.cert.r, .i x.cert.s, .b x.cert.has, .i x.cert.b, .p x.cert.fa, .n x.cert.froms.length, .n x.cert.fc, .p x.sa, .n x.seats.length, .n x.sc], cells := fun x => x.cells, strip := fun x => { x with cert := certR.strip x.cert, sa := none, sc := 0 }, held := fun w x => x.held w w.heap.size, p := pSight }
def cfg_psight : Cfg := { con := [(90, 0), (78, 0), (84, 0)], lents := [(90, [(0, 208)]), (78, [(0, 208)]), (84, [(0, 208)])], mine := [(0, 208)], pans := [90, 78, 84] }
def vcd_psight : { v : VC // vcOf Tryz.prog cfg_psight 181 = v } := by refine ⟨?v, ?h⟩; rotate_left; conv => lhs; reduce
theorem vce_psight : vcOf Tryz.prog cfg_psight 181 = vcd_psight.1 := vcd_psight.2
set_option linter.unusedVariables false in
theorem psight_ok : KeepsL Tryz.prog 181 (elemC sightR) cfg_psight.mine := by
 refine keepsL_v Tryz.func181 cfg_psight vce_psight [.p, .s] (elemC sightR) [(90, (elemC headerR)), (78, (elemC certR)), (84, (elemC benchR))] ⟨pheader_ok, pcert_ok, pbench_ok, trivial⟩ (by kernel_rfl) (fun _ _ _ h => h) ?_; intro x0 s0 w hp; refine ⟨[], vc_use ?Q ?h ?g⟩
 case h => intro O C s I b; conv => lhs; reduce
 dsimp only [std]; simp only [ctrOf, invOf, List.lookup, Nat.reduceBEq, Option.getD_some, Int.reduceOfNat, Int.reduceNegSucc]; have hs0 : Small s0 := hp; have bad : ∀ e, pSight s0 = .error e → (elemC sightR).pan [.p x0, .s s0] (stopCh e) := fun e h => ⟨e, h, rfl⟩
 intro a_header; refine ⟨fun ch ⟨e, g, hc⟩ => hc ▸ bad e (by simp only [pSight, pBind, show pHeader s0 = _ from g]), fun _ _ => hs0, fun l_header_0 l_header_1 l_header_2 l_header_3 l_header_4 l_header_5 l_header_6 l_header_7 l_header_8 s1 ⟨y_header, z_header, g_header, gl⟩ => ?_⟩; obtain rfl : s1 = z_header := by simpa using gl
 replace g_header : pHeader s0 = .ok (y_header, s1) := g_header; have hs1 : Small s1 := good_header _ _ _ g_header hs0; intro a_cert; refine ⟨fun ch ⟨e, g, hc⟩ => hc ▸ bad e (by simp only [pSight, pBind, g_header, show pCert s1 = _ from g]), fun _ _ => hs1, fun l_cert_0 l_cert_1 l_cert_2 l_cert_3 l_cert_4 l_cert_5 l_cert_6 l_cert_7 s2 ⟨y_cert, z_cert, g_cert, gl⟩ => ?_⟩; obtain rfl : s2 = z_cert := by simpa using gl
 replace g_cert : pCert s1 = .ok (y_cert, s2) := g_cert; have hs2 : Small s2 := good_cert _ _ _ g_cert hs1; intro a_bn; refine ⟨fun ch ⟨e, g, hc⟩ => hc ▸ bad e (by simp only [pSight, pBind, g_header, g_cert, show pBench s2 = _ from g]), fun _ _ => hs2, fun l_bn_0 l_bn_1 l_bn_2 s3 ⟨y_bn, z_bn, g_bn, gl⟩ => ?_⟩; obtain rfl : s3 = z_bn := by simpa using gl
 replace g_bn : pBench s2 = .ok (y_bn, s3) := g_bn; have hs3 : Small s3 := good_bench _ _ _ g_bn hs2; refine ⟨⟨⟨y_header, y_cert, y_bn.l, y_bn.a, y_bn.c⟩, s3, by simp only [sightR, pSight, pBind, g_header, g_cert, g_bn], rfl⟩, fun w hw => ?_⟩; obtain ⟨⟨⟨_, ⟨x_header, w_header, e_header, p_header, h_header⟩⟩, ⟨x_cert, w_cert, e_cert, p_cert, h_cert⟩⟩, ⟨x_bn, w_bn, e_bn, p_bn, h_bn⟩⟩ := hw; cases e_header; replace p_header : pHeader _ = .ok (_, _) := p_header; cases e_cert; replace p_cert : pCert _ = .ok (_, _) := p_cert; cases e_bn; replace p_bn : pBench _ = .ok (_, _) := p_bn; exact ⟨⟨x_header, x_cert, x_bn.l, x_bn.a, x_bn.c⟩, s3, rfl, by simp only [sightR, pSight, pBind, p_header, p_cert, p_bn]; first | done | rfl | simp [benchR, certR, headerR], ⟨h_header, h_cert, h_bn.1, h_bn.2⟩⟩
def cfg_gcert : Cfg := { con := [(138, 0), (78, 0)], loops := [(4, { slots := [8, 13], blks := [0], rows := [8], extra := [.var 5, .var 6] })], rows := [(8, 62)], lents := [(138, [(0, 208)]), (78, [(0, 208)])], mine := [(0, 208)], pans := [138, 78], fns := [(18, 78)] }
def vcd_gcert : { v : VC // vcOf Tryz.prog cfg_gcert 270 = v } := by refine ⟨?v, ?h⟩; rotate_left; conv => lhs; reduce
theorem vce_gcert : vcOf Tryz.prog cfg_gcert 270 = vcd_gcert.1 := vcd_gcert.2
theorem getscert_ok : KeepsL Tryz.prog 270 (listC certR 78 6) cfg_gcert.mine := by
 refine keepsL_v Tryz.func270 cfg_gcert vce_gcert [.p, .i, .v, .s] (listC certR 78 6) [(138, PUpToS), (78, elemC certR)] ⟨pupto_ok, pcert_ok, trivial⟩ (by kernel_rfl) (fun _ _ _ h => h) ?_; intro x0 x1 x2 x3 w hp; refine ⟨[(4, listInv certR)], vc_use ?Q ?h ?g⟩
 case h => intro O C s I b; conv => lhs; reduce
 dsimp only [std]; simp only [ctrOf, invOf, List.lookup, Nat.reduceBEq, Option.getD_some, Int.reduceOfNat, Int.reduceNegSucc]; obtain ⟨hs, rfl, hm⟩ : Small x3 ∧ x2 = .func (.func 78) #[] #[] ∧ x1 ≤ 1000000 := hp; simp only [PUpToS, rdC, upToF]; intro x4; refine ⟨fun ch ⟨e, h1, h2⟩ => h2 ▸ list_pan1 (gI_err h1) _, fun _ _ => hs, fun x5 x6 h1 => ?_⟩; have h1 := gI_ok h1; obtain ⟨i1, i2⟩ := list_init (R := certR) h1 hs hm; refine ⟨i1, fun w _ => i2 w, fun m xs k sk hi => ⟨fun hk => ⟨trivial, fun a => ⟨fun ch ⟨e, g1, g2⟩ => g2 ▸ list_pan2 h1 hi hk g1 _, fun _ _ => hi.2.2.2.2.1, fun l0 l1 l2 l3 l4 l5 l6 l7 s' ⟨y, z, g, gl⟩ => ?_⟩⟩, fun hk A c => ?_⟩⟩
 ·obtain rfl : s' = z := by simpa using gl
  obtain ⟨n1, n2, n3, n4, n5⟩ := list_next (R := certR) hi hk g (good_cert _ _ _ g hi.2.2.2.2.1) 64 (by decide) _; refine ⟨n1, n2, n3, n4, fun w ⟨⟨_, f⟩, ⟨x, z, e1, e2, e3⟩⟩ => ?_, n5 _, trivial⟩; cases e1; obtain ⟨l, q1, q2, q3⟩ := list_step (R := certR) hi.1 f e2 e3; exact ⟨l, q1, (show xs ++ _ = _ from by rw [← q2]; exact congrArg (xs ++ ·) (by kernel_rfl)), q3⟩
 ·obtain ⟨f1, f2⟩ := list_fin (R := certR) (A := A) (c := c) (a := x0) (fg := 78) (size := 6) h1 hi hk (.func (.func 78) #[] #[]); exact ⟨f1, fun w ⟨⟨_, f⟩, o⟩ => f2 f o⟩
def cfg_gproof : Cfg := { con := [(138, 0), (96, 0)], loops := [(4, { slots := [8, 13], blks := [0], rows := [8], extra := [.var 5, .var 6] })], rows := [(8, 87)], lents := [(138, [(0, 208)]), (96, [(0, 208)])], mine := [(0, 208)], pans := [138, 96], fns := [(18, 96)] }
def vcd_gproof : { v : VC // vcOf Tryz.prog cfg_gproof 182 = v } := by refine ⟨?v, ?h⟩; rotate_left; conv => lhs; reduce
theorem vce_gproof : vcOf Tryz.prog cfg_gproof 182 = vcd_gproof.1 := vcd_gproof.2
theorem getsproof_ok : KeepsL Tryz.prog 182 (listC proofR 96 4) cfg_gproof.mine := by
 refine keepsL_v Tryz.func182 cfg_gproof vce_gproof [.p, .i, .v, .s] (listC proofR 96 4) [(138, PUpToS), (96, elemC proofR)] ⟨pupto_ok, pproof_ok, trivial⟩ (by kernel_rfl) (fun _ _ _ h => h) ?_; intro x0 x1 x2 x3 w hp; refine ⟨[(4, listInv proofR)], vc_use ?Q ?h ?g⟩
 case h => intro O C s I b; conv => lhs; reduce
 dsimp only [std]; simp only [ctrOf, invOf, List.lookup, Nat.reduceBEq, Option.getD_some, Int.reduceOfNat, Int.reduceNegSucc]; obtain ⟨hs, rfl, hm⟩ : Small x3 ∧ x2 = .func (.func 96) #[] #[] ∧ x1 ≤ 1000000 := hp; simp only [PUpToS, rdC, upToF]; intro x4; refine ⟨fun ch ⟨e, h1, h2⟩ => h2 ▸ list_pan1 (gI_err h1) _, fun _ _ => hs, fun x5 x6 h1 => ?_⟩; have h1 := gI_ok h1; obtain ⟨i1, i2⟩ := list_init (R := proofR) h1 hs hm; refine ⟨i1, fun w _ => i2 w, fun m xs k sk hi => ⟨fun hk => ⟨trivial, fun a => ⟨fun ch ⟨e, g1, g2⟩ => g2 ▸ list_pan2 h1 hi hk g1 _, fun _ _ => hi.2.2.2.2.1, fun l0 l1 l2 l3 l4 l5 s' ⟨y, z, g, gl⟩ => ?_⟩⟩, fun hk A c => ?_⟩⟩
 ·obtain rfl : s' = z := by simpa using gl
  obtain ⟨n1, n2, n3, n4, n5⟩ := list_next (R := proofR) hi hk g (good_proof _ _ _ g hi.2.2.2.2.1) 64 (by decide) _; refine ⟨n1, n2, n3, n4, fun w ⟨⟨_, f⟩, ⟨x, z, e1, e2, e3⟩⟩ => ?_, n5 _, trivial⟩; cases e1; obtain ⟨l, q1, q2, q3⟩ := list_step (R := proofR) hi.1 f e2 e3; exact ⟨l, q1, (show xs ++ _ = _ from by rw [← q2]; exact congrArg (xs ++ ·) (by kernel_rfl)), q3⟩
 ·obtain ⟨f1, f2⟩ := list_fin (R := proofR) (A := A) (c := c) (a := x0) (fg := 96) (size := 4) h1 hi hk (.func (.func 96) #[] #[]); exact ⟨f1, fun w ⟨⟨_, f⟩, o⟩ => f2 f o⟩
def cfg_gsight : Cfg := { con := [(138, 0), (181, 0)], loops := [(4, { slots := [8, 13], blks := [0], rows := [8], extra := [.var 5, .var 6] })], rows := [(8, 245)], lents := [(138, [(0, 208)]), (181, [(0, 208)])], mine := [(0, 208)], pans := [138, 181], fns := [(18, 181)] }
def vcd_gsight : { v : VC // vcOf Tryz.prog cfg_gsight 180 = v } := by refine ⟨?v, ?h⟩; rotate_left; conv => lhs; reduce
theorem vce_gsight : vcOf Tryz.prog cfg_gsight 180 = vcd_gsight.1 := vcd_gsight.2
theorem getssight_ok : KeepsL Tryz.prog 180 (listC sightR 181 16) cfg_gsight.mine := by
 refine keepsL_v Tryz.func180 cfg_gsight vce_gsight [.p, .i, .v, .s] (listC sightR 181 16) [(138, PUpToS), (181, elemC sightR)] ⟨pupto_ok, psight_ok, trivial⟩ (by kernel_rfl) (fun _ _ _ h => h) ?_; intro x0 x1 x2 x3 w hp; refine ⟨[(4, listInv sightR)], vc_use ?Q ?h ?g⟩
 case h => intro O C s I b; conv => lhs; reduce
 dsimp only [std]; simp only [ctrOf, invOf, List.lookup, Nat.reduceBEq, Option.getD_some, Int.reduceOfNat, Int.reduceNegSucc]; obtain ⟨hs, rfl, hm⟩ : Small x3 ∧ x2 = .func (.func 181) #[] #[] ∧ x1 ≤ 1000000 := hp; simp only [PUpToS, rdC, upToF]; intro x4; refine ⟨fun ch ⟨e, h1, h2⟩ => h2 ▸ list_pan1 (gI_err h1) _, fun _ _ => hs, fun x5 x6 h1 => ?_⟩; have h1 := gI_ok h1; obtain ⟨i1, i2⟩ := list_init (R := sightR) h1 hs hm; refine ⟨i1, fun w _ => i2 w, fun m xs k sk hi => ⟨fun hk => ⟨trivial, fun a => ⟨fun ch ⟨e, g1, g2⟩ => g2 ▸ list_pan2 h1 hi hk g1 _, fun _ _ => hi.2.2.2.2.1, fun l0 l1 l2 l3 l4 l5 l6 l7 l8 l9 l10 l11 l12 l13 l14 l15 l16 l17 l18 l19 s' ⟨y, z, g, gl⟩ => ?_⟩⟩, fun hk A c => ?_⟩⟩
 ·obtain rfl : s' = z := by simpa using gl
  obtain ⟨n1, n2, n3, n4, n5⟩ := list_next (R := sightR) hi hk g (good_sight _ _ _ g hi.2.2.2.2.1) 160 (by decide) _; refine ⟨n1, n2, n3, n4, fun w ⟨⟨_, f⟩, ⟨x, z, e1, e2, e3⟩⟩ => ?_, n5 _, trivial⟩; cases e1; obtain ⟨l, q1, q2, q3⟩ := list_step (R := sightR) hi.1 f e2 e3; exact ⟨l, q1, (show xs ++ _ = _ from by rw [← q2]; exact congrArg (xs ++ ·) (by kernel_rfl)), q3⟩
 ·obtain ⟨f1, f2⟩ := list_fin (R := sightR) (A := A) (c := c) (a := x0) (fg := 181) (size := 16) h1 hi hk (.func (.func 181) #[] #[]); exact ⟨f1, fun w ⟨⟨_, f⟩, o⟩ => f2 f o⟩
end Go.Proofs.YtjhaafbbdgjagaaGreat
