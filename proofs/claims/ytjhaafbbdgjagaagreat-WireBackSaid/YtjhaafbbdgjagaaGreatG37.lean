/- Of the texts Gp2. -/
import Derived.Test.YtjhaafbbdgjagaaGreatProg
import Derived.Test.YtjhaafbbdgjagaaGreatG14
import Derived.Test.YtjhaafbbdgjagaaGreatG34
set_option linter.unusedSimpArgs false
set_option linter.unusedVariables false
namespace Go.Proofs.YtjhaafbbdgjagaaGreat
open Go.RowKit Vc
set_option maxRecDepth 100000
def pBind {α β : Type} (p : ByteArray → Got α) (f : α → ByteArray → Got β) (s : ByteArray) : Got β := match p s with | .error e => .error e | .ok (x, r) => f x r
def Good {α : Type} (p : ByteArray → Got α) : Prop := ∀ s x r, p s = .ok (x, r) → Small s → Small r
theorem good_bind {α β : Type} {p : ByteArray → Got α} {f : α → ByteArray → Got β} (h : Good p) (g : ∀ x, Good (f x)) : Good (pBind p f) := by
 intro s y r hs hm; unfold pBind at hs; split at hs
 ·cases hs
 ·next x t hx => exact g x t y r hs (h s x t hx hm)
theorem good_ok {α : Type} (x : α) : Good fun s => .ok (x, s) := by
 intro s y r h hm; simp only [Except.ok.injEq, Prod.mk.injEq] at h; rw [← h.2]; exact hm
theorem good_upto (n : Int) : Good (pUpTo n) := fun _ _ _ h hs => (pUpTo_spec h hs).2.2
theorem good_num : Good pNum := good_upto _
theorem pDig_inv {s r : ByteArray} {n : Int} (h : pDig s = .ok (n, r)) : ∃ b, pTake 8 s = .ok (b, r) ∧ n = numOf b.data.toList := by
 unfold pDig at h; cases ht : pTake 8 s with
 | error e => rw [ht] at h; cases h
 | ok q =>
  obtain ⟨b, t⟩ := q; rw [ht] at h; simp only [Except.map, Except.ok.injEq, Prod.mk.injEq] at h; exact ⟨b, by rw [h.2], h.1.symm⟩
theorem good_dig : Good pDig := fun s n r h hs => by
 obtain ⟨b, hb, _⟩ := pDig_inv h; exact (pTake_small hb hs (by decide)).2.1
theorem pTake_len {n : Int} {s b r : ByteArray} (h : pTake n s = .ok (b, r)) : b.size ≤ n.toNat := by
 unfold pTake at h; split at h
 ·cases h
 ·simp only [Except.ok.injEq, Prod.mk.injEq] at h; rw [← h.1, ByteArray.size_extract]; omega
theorem pDig_spec {s r : ByteArray} {n : Int} (h : pDig s = .ok (n, r)) : 0 ≤ n ∧ n < 18446744073709551616 := by
 obtain ⟨b, hb, rfl⟩ := pDig_inv h; have h1 := numOf_lt _ b.data.toList rfl; have h2 := pTake_len hb; rw [size_list] at h1; have h3 : 256 ^ b.size ≤ 256 ^ 8 := Nat.pow_le_pow_right (by decide) (by omega); have : (256 : Nat) ^ 8 = 18446744073709551616 := by decide
 omega
theorem good_flag : Good pFlag := by
 intro s x r h hs; unfold pFlag at h; split at h
 ·cases h
 ·next b t hb =>
  have := (pTake_small hb hs (by decide)).2.1; split at h
  ·simp only [Except.ok.injEq, Prod.mk.injEq] at h; rw [← h.2]; exact this
  ·split at h
   ·simp only [Except.ok.injEq, Prod.mk.injEq] at h; rw [← h.2]; exact this
   ·cases h
theorem good_rep {α : Type} {p : ByteArray → Got α} (hp : Good p) : ∀ k, Good (pRep p k)
 | 0 => good_ok []
 | k + 1 => by
  intro s l r h hs; unfold pRep at h; split at h
  ·cases h
  ·next x t hx =>
   split at h
   ·cases h
   ·next l' t' hl =>
    simp only [Except.ok.injEq, Prod.mk.injEq] at h; rw [← h.2]; exact good_rep hp k t l' t' hl (hp s x t hx hs)
theorem good_list {α : Type} (n : Int) {p : ByteArray → Got α} (hp : Good p) : Good (pList n p) := by
 intro s l r h hs; unfold pList at h; split at h
 ·cases h
 ·next m t ht => exact good_rep hp _ t l r h (good_upto n s m t ht hs)
theorem gB_ok {P : Got Bool} {x : Bool} {s : ByteArray} (h : gB P = .ok [.b x, .s s]) : P = .ok (x, s) := by
 cases P with
 | error e => simp [gB, Except.map] at h
 | ok r => obtain ⟨a, b⟩ := r; simpa [gB, Except.map] using h
theorem gB_err {P : Got Bool} {e : Int} (h : gB P = .error e) : P = .error e := by
 cases P with
 | error e' => simpa [gB, Except.map] using h
 | ok r => simp [gB, Except.map] at h
theorem gS_ok {P : Got ByteArray} {x : ByteArray} {s : ByteArray} (h : gS P = .ok [.s x, .s s]) : P = .ok (x, s) := by
 cases P with
 | error e => simp [gS, Except.map] at h
 | ok r => obtain ⟨a, b⟩ := r; simpa [gS, Except.map] using h
theorem gS_err {P : Got ByteArray} {e : Int} (h : gS P = .error e) : P = .error e := by
 cases P with
 | error e' => simpa [gS, Except.map] using h
 | ok r => simp [gS, Except.map] at h
theorem short_of {α : Type} {most : Int} {p : ByteArray → Got α} {s r : ByteArray} {β : Type} {l : List β} {f : β → α} (h : pList most p s = .ok (l.map f, r)) (hm : most ≤ 1000000 := by decide) (hs : Small s := by assumption) : l.length ≤ maxLen := by
 unfold pList at h; split at h
 ·cases h
 ·next n t ht =>
  have h1 := pRep_len h; have h2 := pUpTo_spec ht hs; rw [List.length_map] at h1; unfold maxLen; omega
theorem bs_back (t : ByteArray) : bs t.data.toList = t := by
 unfold bs; simp
def numR : Rdr Int := { us := fun x => [.i x], cells := fun x => [.int .i64 x], strip := id, held := fun _ _ => True, p := pNum }
theorem ints_of {w : World} {B : Nat} {A : Option Addr} {l : List Int} (h : Rd w B 1 A l.length (l.flatMap numR.cells)) : Ints w B A l := by
 have : l.flatMap numR.cells = l.map (Value.int .i64) := by
  show l.flatMap (fun x => [Value.int .i64 x]) = _; clear h
  induction l with
  | nil => rfl
  | cons x l ih => rw [List.flatMap_cons, ih]; rfl
 rw [this] at h; exact h
def pVote : ByteArray → Got VoteD := pBind pNum fun h => pBind pNum fun r => pBind pNum fun s => pBind pFlag fun has => pBind pDig fun b => pBind pNum fun f => fun z => .ok (⟨h, r, s, has, b, f⟩, z)
theorem good_vote : Good pVote := by unfold pVote; exact good_bind good_num fun _ => good_bind good_num fun _ => good_bind good_num fun _ => good_bind good_flag fun _ => good_bind good_dig fun _ => good_bind good_num fun _ => good_ok _
def voteR : Rdr VoteD := { us := fun x => [.i x.h, .i x.r, .i x.s, .b x.has, .i x.b, .i x.f], cells := fun x => [.int .i64 x.h, .int .i64 x.r, .int .i64 x.s, .bool x.has, .int .u64 x.b, .int .i64 x.f], strip := fun x => x, held := fun w x => x.ok, p := pVote }
def cfg_pvote : Cfg := { con := [(58, 0), (149, 0), (150, 0)], lents := [(58, [(0, 208)]), (149, [(0, 208)]), (150, [(0, 208)])], mine := [(0, 208)], pans := [58, 149, 150] }
def vcd_pvote : { v : VC // vcOf Tryz.prog cfg_pvote 72 = v } := by refine ⟨?v, ?h⟩; rotate_left; conv => lhs; reduce
theorem vce_pvote : vcOf Tryz.prog cfg_pvote 72 = vcd_pvote.1 := vcd_pvote.2
set_option linter.unusedVariables false in
theorem pvote_ok : KeepsL Tryz.prog 72 (elemC voteR) cfg_pvote.mine := by
 refine keepsL_v Tryz.func72 cfg_pvote vce_pvote [.p, .s] (elemC voteR) [(58, PNumS), (149, PFlagS), (150, PDigS)] ⟨pnum_ok, pflag_ok, pdig_ok, trivial⟩ (by kernel_rfl) (fun _ _ _ h => h) ?_; intro x0 s0 w hp; refine ⟨[], vc_use ?Q ?h ?g⟩
 case h => intro O C s I b; conv => lhs; reduce
 dsimp only [std]; simp only [ctrOf, invOf, List.lookup, Nat.reduceBEq, Option.getD_some, Int.reduceOfNat, Int.reduceNegSucc]; have hs0 : Small s0 := hp; have bad : ∀ e, pVote s0 = .error e → (elemC voteR).pan [.p x0, .s s0] (stopCh e) := fun e h => ⟨e, h, rfl⟩
 simp only [rdC, PNumS, numF, PFlagS, flagF, PDigS, digF]; intro a_h; refine ⟨fun ch ⟨e, g, hc⟩ => hc ▸ bad e (by simp only [pVote, pBind, gI_err g]), fun _ _ => hs0, fun h s1 g_h => ?_⟩; replace g_h := gI_ok g_h; have hs1 : Small s1 := good_num _ _ _ g_h hs0; intro a_r; refine ⟨fun ch ⟨e, g, hc⟩ => hc ▸ bad e (by simp only [pVote, pBind, g_h, gI_err g]), fun _ _ => hs1, fun r s2 g_r => ?_⟩; replace g_r := gI_ok g_r; have hs2 : Small s2 := good_num _ _ _ g_r hs1; intro a_s; refine ⟨fun ch ⟨e, g, hc⟩ => hc ▸ bad e (by simp only [pVote, pBind, g_h, g_r, gI_err g]), fun _ _ => hs2, fun s s3 g_s => ?_⟩; replace g_s := gI_ok g_s; have hs3 : Small s3 := good_num _ _ _ g_s hs2; intro a_has; refine ⟨fun ch ⟨e, g, hc⟩ => hc ▸ bad e (by simp only [pVote, pBind, g_h, g_r, g_s, gB_err g]), fun _ _ => hs3, fun has s4 g_has => ?_⟩; replace g_has := gB_ok g_has; have hs4 : Small s4 := good_flag _ _ _ g_has hs3; intro a_b; refine ⟨fun ch ⟨e, g, hc⟩ => hc ▸ bad e (by simp only [pVote, pBind, g_h, g_r, g_s, g_has, gI_err g]), fun _ _ => hs4, fun b s5 g_b => ?_⟩; replace g_b := gI_ok g_b; have hs5 : Small s5 := good_dig _ _ _ g_b hs4; intro a_f; refine ⟨fun ch ⟨e, g, hc⟩ => hc ▸ bad e (by simp only [pVote, pBind, g_h, g_r, g_s, g_has, g_b, gI_err g]), fun _ _ => hs5, fun f s6 g_f => ?_⟩; replace g_f := gI_ok g_f; have hs6 : Small s6 := good_num _ _ _ g_f hs5; refine ⟨⟨⟨h, r, s, has, b, f⟩, s6, by simp only [voteR, pVote, pBind, g_h, g_r, g_s, g_has, g_b, g_f], rfl⟩, fun w hw => ?_⟩; obtain ⟨⟨⟨⟨⟨⟨_, _⟩, _⟩, _⟩, _⟩, _⟩, _⟩ := hw; exact ⟨⟨h, r, s, has, b, f⟩, s6, rfl, by simp only [voteR, pVote, pBind, g_h, g_r, g_s, g_has, g_b, g_f], pDig_spec g_b⟩
def pHeader : ByteArray → Got HeaderD := pBind pNum fun c => pBind pNum fun h => pBind pDig fun p => pBind pDig fun t => pBind pDig fun g => pBind pDig fun s => pBind pDig fun r => pBind pDig fun b => pBind pNum fun o => fun z => .ok (⟨c, h, p, t, g, s, r, b, o⟩, z)
theorem good_header : Good pHeader := by unfold pHeader; exact good_bind good_num fun _ => good_bind good_num fun _ => good_bind good_dig fun _ => good_bind good_dig fun _ => good_bind good_dig fun _ => good_bind good_dig fun _ => good_bind good_dig fun _ => good_bind good_dig fun _ => good_bind good_num fun _ => good_ok _
def headerR : Rdr HeaderD := { us := fun x => [.i x.c, .i x.h, .i x.p, .i x.t, .i x.g, .i x.s, .i x.r, .i x.b, .i x.o], cells := fun x => x.cells, strip := fun x => x, held := fun w x => x.ok, p := pHeader }
def cfg_pheader : Cfg := { con := [(58, 0), (150, 0)], lents := [(58, [(0, 208)]), (150, [(0, 208)])], mine := [(0, 208)], pans := [58, 150] }
def vcd_pheader : { v : VC // vcOf Tryz.prog cfg_pheader 90 = v } := by refine ⟨?v, ?h⟩; rotate_left; conv => lhs; reduce
theorem vce_pheader : vcOf Tryz.prog cfg_pheader 90 = vcd_pheader.1 := vcd_pheader.2
set_option linter.unusedVariables false in
theorem pheader_ok : KeepsL Tryz.prog 90 (elemC headerR) cfg_pheader.mine := by
 refine keepsL_v Tryz.func90 cfg_pheader vce_pheader [.p, .s] (elemC headerR) [(58, PNumS), (150, PDigS)] ⟨pnum_ok, pdig_ok, trivial⟩ (by kernel_rfl) (fun _ _ _ h => h) ?_; intro x0 s0 w hp; refine ⟨[], vc_use ?Q ?h ?g⟩
 case h => intro O C s I b; conv => lhs; reduce
 dsimp only [std]; simp only [ctrOf, invOf, List.lookup, Nat.reduceBEq, Option.getD_some, Int.reduceOfNat, Int.reduceNegSucc]; have hs0 : Small s0 := hp; have bad : ∀ e, pHeader s0 = .error e → (elemC headerR).pan [.p x0, .s s0] (stopCh e) := fun e h => ⟨e, h, rfl⟩
 simp only [rdC, PNumS, numF, PDigS, digF]; intro a_c; refine ⟨fun ch ⟨e, g, hc⟩ => hc ▸ bad e (by simp only [pHeader, pBind, gI_err g]), fun _ _ => hs0, fun c s1 g_c => ?_⟩; replace g_c := gI_ok g_c; have hs1 : Small s1 := good_num _ _ _ g_c hs0; intro a_h; refine ⟨fun ch ⟨e, g, hc⟩ => hc ▸ bad e (by simp only [pHeader, pBind, g_c, gI_err g]), fun _ _ => hs1, fun h s2 g_h => ?_⟩; replace g_h := gI_ok g_h; have hs2 : Small s2 := good_num _ _ _ g_h hs1; intro a_p; refine ⟨fun ch ⟨e, g, hc⟩ => hc ▸ bad e (by simp only [pHeader, pBind, g_c, g_h, gI_err g]), fun _ _ => hs2, fun p s3 g_p => ?_⟩; replace g_p := gI_ok g_p; have hs3 : Small s3 := good_dig _ _ _ g_p hs2; intro a_t; refine ⟨fun ch ⟨e, g, hc⟩ => hc ▸ bad e (by simp only [pHeader, pBind, g_c, g_h, g_p, gI_err g]), fun _ _ => hs3, fun t s4 g_t => ?_⟩; replace g_t := gI_ok g_t; have hs4 : Small s4 := good_dig _ _ _ g_t hs3; intro a_g; refine ⟨fun ch ⟨e, g, hc⟩ => hc ▸ bad e (by simp only [pHeader, pBind, g_c, g_h, g_p, g_t, gI_err g]), fun _ _ => hs4, fun g s5 g_g => ?_⟩; replace g_g := gI_ok g_g; have hs5 : Small s5 := good_dig _ _ _ g_g hs4; intro a_s; refine ⟨fun ch ⟨e, g, hc⟩ => hc ▸ bad e (by simp only [pHeader, pBind, g_c, g_h, g_p, g_t, g_g, gI_err g]), fun _ _ => hs5, fun s s6 g_s => ?_⟩; replace g_s := gI_ok g_s; have hs6 : Small s6 := good_dig _ _ _ g_s hs5; intro a_r; refine ⟨fun ch ⟨e, g, hc⟩ => hc ▸ bad e (by simp only [pHeader, pBind, g_c, g_h, g_p, g_t, g_g, g_s, gI_err g]), fun _ _ => hs6, fun r s7 g_r => ?_⟩; replace g_r := gI_ok g_r; have hs7 : Small s7 := good_dig _ _ _ g_r hs6; intro a_b; refine ⟨fun ch ⟨e, g, hc⟩ => hc ▸ bad e (by simp only [pHeader, pBind, g_c, g_h, g_p, g_t, g_g, g_s, g_r, gI_err g]), fun _ _ => hs7, fun b s8 g_b => ?_⟩; replace g_b := gI_ok g_b; have hs8 : Small s8 := good_dig _ _ _ g_b hs7; intro a_o; refine ⟨fun ch ⟨e, g, hc⟩ => hc ▸ bad e (by simp only [pHeader, pBind, g_c, g_h, g_p, g_t, g_g, g_s, g_r, g_b, gI_err g]), fun _ _ => hs8, fun o s9 g_o => ?_⟩
 replace g_o := gI_ok g_o; have hs9 : Small s9 := good_num _ _ _ g_o hs8; refine ⟨⟨⟨c, h, p, t, g, s, r, b, o⟩, s9, by simp only [headerR, pHeader, pBind, g_c, g_h, g_p, g_t, g_g, g_s, g_r, g_b, g_o], rfl⟩, fun w hw => ?_⟩; obtain ⟨⟨⟨⟨⟨⟨⟨⟨⟨_, _⟩, _⟩, _⟩, _⟩, _⟩, _⟩, _⟩, _⟩, _⟩ := hw; exact ⟨⟨c, h, p, t, g, s, r, b, o⟩, s9, rfl, by simp only [headerR, pHeader, pBind, g_c, g_h, g_p, g_t, g_g, g_s, g_r, g_b, g_o], ⟨pDig_spec g_p, pDig_spec g_t, pDig_spec g_g, pDig_spec g_s, pDig_spec g_r, pDig_spec g_b⟩⟩
def pTurn : ByteArray → Got TurnD := pBind (pUpTo 287) fun p => pBind pDig fun d => fun z => .ok (⟨p, d⟩, z)
theorem good_turn : Good pTurn := by unfold pTurn; exact good_bind (good_upto _) fun _ => good_bind good_dig fun _ => good_ok _
def turnR : Rdr TurnD := { us := fun x => [.i x.p, .i x.d], cells := fun x => x.cells, strip := fun x => x, held := fun w x => x.ok, p := pTurn }
def cfg_pturn : Cfg := { con := [(138, 0), (150, 0)], lents := [(138, [(0, 208)]), (150, [(0, 208)])], mine := [(0, 208)], pans := [138, 150] }
def vcd_pturn : { v : VC // vcOf Tryz.prog cfg_pturn 172 = v } := by refine ⟨?v, ?h⟩; rotate_left; conv => lhs; reduce
theorem vce_pturn : vcOf Tryz.prog cfg_pturn 172 = vcd_pturn.1 := vcd_pturn.2
set_option linter.unusedVariables false in
theorem pturn_ok : KeepsL Tryz.prog 172 (elemC turnR) cfg_pturn.mine := by
 refine keepsL_v Tryz.func172 cfg_pturn vce_pturn [.p, .s] (elemC turnR) [(138, PUpToS), (150, PDigS)] ⟨pupto_ok, pdig_ok, trivial⟩ (by kernel_rfl) (fun _ _ _ h => h) ?_; intro x0 s0 w hp; refine ⟨[], vc_use ?Q ?h ?g⟩
 case h => intro O C s I b; conv => lhs; reduce
 dsimp only [std]; simp only [ctrOf, invOf, List.lookup, Nat.reduceBEq, Option.getD_some, Int.reduceOfNat, Int.reduceNegSucc]; have hs0 : Small s0 := hp; have bad : ∀ e, pTurn s0 = .error e → (elemC turnR).pan [.p x0, .s s0] (stopCh e) := fun e h => ⟨e, h, rfl⟩
 simp only [rdC, PDigS, digF, PUpToS, upToF]; intro a_p; refine ⟨fun ch ⟨e, g, hc⟩ => hc ▸ bad e (by simp only [pTurn, pBind, gI_err g]), fun _ _ => hs0, fun p s1 g_p => ?_⟩; replace g_p := gI_ok g_p; have hs1 : Small s1 := good_upto _ _ _ _ g_p hs0; intro a_d; refine ⟨fun ch ⟨e, g, hc⟩ => hc ▸ bad e (by simp only [pTurn, pBind, g_p, gI_err g]), fun _ _ => hs1, fun d s2 g_d => ?_⟩; replace g_d := gI_ok g_d; have hs2 : Small s2 := good_dig _ _ _ g_d hs1; refine ⟨⟨⟨p, d⟩, s2, by simp only [turnR, pTurn, pBind, g_p, g_d], rfl⟩, fun w hw => ?_⟩; obtain ⟨⟨_, _⟩, _⟩ := hw; exact ⟨⟨p, d⟩, s2, rfl, by simp only [turnR, pTurn, pBind, g_p, g_d], pDig_spec g_d⟩
def pSeat : ByteArray → Got Seat := pBind pNum fun who => pBind pNum fun weight => fun z => .ok (⟨who, weight⟩, z)
theorem good_seat : Good pSeat := by unfold pSeat; exact good_bind good_num fun _ => good_bind good_num fun _ => good_ok _
def seatR : Rdr Seat := { us := fun x => [.i x.who, .i x.weight], cells := fun x => seatCells x, strip := fun x => x, held := fun w x => True, p := pSeat }
def cfg_pseat : Cfg := { con := [(58, 0)], lents := [(58, [(0, 208)])], mine := [(0, 208)], pans := [58] }
def vcd_pseat : { v : VC // vcOf Tryz.prog cfg_pseat 166 = v } := by refine ⟨?v, ?h⟩; rotate_left; conv => lhs; reduce
theorem vce_pseat : vcOf Tryz.prog cfg_pseat 166 = vcd_pseat.1 := vcd_pseat.2
set_option linter.unusedVariables false in
theorem pseat_ok : KeepsL Tryz.prog 166 (elemC seatR) cfg_pseat.mine := by
 refine keepsL_v Tryz.func166 cfg_pseat vce_pseat [.p, .s] (elemC seatR) [(58, PNumS)] ⟨pnum_ok, trivial⟩ (by kernel_rfl) (fun _ _ _ h => h) ?_
 intro x0 s0 w hp; refine ⟨[], vc_use ?Q ?h ?g⟩
 case h => intro O C s I b; conv => lhs; reduce
 dsimp only [std]; simp only [ctrOf, invOf, List.lookup, Nat.reduceBEq, Option.getD_some, Int.reduceOfNat, Int.reduceNegSucc]; have hs0 : Small s0 := hp; have bad : ∀ e, pSeat s0 = .error e → (elemC seatR).pan [.p x0, .s s0] (stopCh e) := fun e h => ⟨e, h, rfl⟩
 simp only [rdC, PNumS, numF]; intro a_who; refine ⟨fun ch ⟨e, g, hc⟩ => hc ▸ bad e (by simp only [pSeat, pBind, gI_err g]), fun _ _ => hs0, fun who s1 g_who => ?_⟩; replace g_who := gI_ok g_who; have hs1 : Small s1 := good_num _ _ _ g_who hs0; intro a_weight; refine ⟨fun ch ⟨e, g, hc⟩ => hc ▸ bad e (by simp only [pSeat, pBind, g_who, gI_err g]), fun _ _ => hs1, fun weight s2 g_weight => ?_⟩; replace g_weight := gI_ok g_weight; have hs2 : Small s2 := good_num _ _ _ g_weight hs1; refine ⟨⟨⟨who, weight⟩, s2, by simp only [seatR, pSeat, pBind, g_who, g_weight], rfl⟩, fun w hw => ?_⟩; obtain ⟨⟨_, _⟩, _⟩ := hw; exact ⟨⟨who, weight⟩, s2, rfl, by simp only [seatR, pSeat, pBind, g_who, g_weight], trivial⟩
def pNote : ByteArray → Got NoteD := pBind pNum fun who => pBind pNum fun n => fun z => .ok (⟨who, n⟩, z)
theorem good_note : Good pNote := by unfold pNote; exact good_bind good_num fun _ => good_bind good_num fun _ => good_ok _
def noteR : Rdr NoteD := { us := fun x => [.i x.who, .i x.n], cells := fun x => noteCells x, strip := fun x => x, held := fun w x => True, p := pNote }
def cfg_pnote : Cfg := { con := [(58, 0)], lents := [(58, [(0, 208)])], mine := [(0, 208)], pans := [58] }
def vcd_pnote : { v : VC // vcOf Tryz.prog cfg_pnote 266 = v } := by refine ⟨?v, ?h⟩; rotate_left; conv => lhs; reduce
theorem vce_pnote : vcOf Tryz.prog cfg_pnote 266 = vcd_pnote.1 := vcd_pnote.2
set_option linter.unusedVariables false in
theorem pnote_ok : KeepsL Tryz.prog 266 (elemC noteR) cfg_pnote.mine := by
 refine keepsL_v Tryz.func266 cfg_pnote vce_pnote [.p, .s] (elemC noteR) [(58, PNumS)] ⟨pnum_ok, trivial⟩ (by kernel_rfl) (fun _ _ _ h => h) ?_
 intro x0 s0 w hp; refine ⟨[], vc_use ?Q ?h ?g⟩
 case h => intro O C s I b; conv => lhs; reduce
 dsimp only [std]; simp only [ctrOf, invOf, List.lookup, Nat.reduceBEq, Option.getD_some, Int.reduceOfNat, Int.reduceNegSucc]; have hs0 : Small s0 := hp; have bad : ∀ e, pNote s0 = .error e → (elemC noteR).pan [.p x0, .s s0] (stopCh e) := fun e h => ⟨e, h, rfl⟩
 simp only [rdC, PNumS, numF]; intro a_who; refine ⟨fun ch ⟨e, g, hc⟩ => hc ▸ bad e (by simp only [pNote, pBind, gI_err g]), fun _ _ => hs0, fun who s1 g_who => ?_⟩; replace g_who := gI_ok g_who; have hs1 : Small s1 := good_num _ _ _ g_who hs0; intro a_n; refine ⟨fun ch ⟨e, g, hc⟩ => hc ▸ bad e (by simp only [pNote, pBind, g_who, gI_err g]), fun _ _ => hs1, fun n s2 g_n => ?_⟩; replace g_n := gI_ok g_n; have hs2 : Small s2 := good_num _ _ _ g_n hs1; refine ⟨⟨⟨who, n⟩, s2, by simp only [noteR, pNote, pBind, g_who, g_n], rfl⟩, fun w hw => ?_⟩; obtain ⟨⟨_, _⟩, _⟩ := hw; exact ⟨⟨who, n⟩, s2, rfl, by simp only [noteR, pNote, pBind, g_who, g_n], trivial⟩
def pGuilt : ByteArray → Got GuiltD := pBind pVote fun a => pBind pVote fun b => fun z => .ok (⟨a, b⟩, z)
theorem good_guilt : Good pGuilt := by unfold pGuilt; exact good_bind good_vote fun _ => good_bind good_vote fun _ => good_ok _
def guiltR : Rdr GuiltD := { us := fun x => [.i x.a.h, .i x.a.r, .i x.a.s, .b x.a.has, .i x.a.b, .i x.a.f, .i x.b.h, .i x.b.r, .i x.b.s, .b x.b.has, .i x.b.b, .i x.b.f], cells := fun x => x.cells, strip := fun x => x, held := fun w x => x.ok, p := pGuilt }
def cfg_pguilt : Cfg := { con := [(72, 0)], lents := [(72, [(0, 208)])], mine := [(0, 208)], pans := [72] }
def vcd_pguilt : { v : VC // vcOf Tryz.prog cfg_pguilt 108 = v } := by refine ⟨?v, ?h⟩; rotate_left; conv => lhs; reduce
theorem vce_pguilt : vcOf Tryz.prog cfg_pguilt 108 = vcd_pguilt.1 := vcd_pguilt.2
set_option linter.unusedVariables false in
theorem pguilt_ok : KeepsL Tryz.prog 108 (elemC guiltR) cfg_pguilt.mine := by
 refine keepsL_v Tryz.func108 cfg_pguilt vce_pguilt [.p, .s] (elemC guiltR) [(72, (elemC voteR))] ⟨pvote_ok, trivial⟩ (by kernel_rfl) (fun _ _ _ h => h) ?_; intro x0 s0 w hp; refine ⟨[], vc_use ?Q ?h ?g⟩
 case h => intro O C s I b; conv => lhs; reduce
 dsimp only [std]; simp only [ctrOf, invOf, List.lookup, Nat.reduceBEq, Option.getD_some, Int.reduceOfNat, Int.reduceNegSucc]; have hs0 : Small s0 := hp; have bad : ∀ e, pGuilt s0 = .error e → (elemC guiltR).pan [.p x0, .s s0] (stopCh e) := fun e h => ⟨e, h, rfl⟩
 intro a_a; refine ⟨fun ch ⟨e, g, hc⟩ => hc ▸ bad e (by simp only [pGuilt, pBind, show pVote s0 = _ from g]), fun _ _ => hs0, fun l_a_0 l_a_1 l_a_2 l_a_3 l_a_4 l_a_5 s1 ⟨y_a, z_a, g_a, gl⟩ => ?_⟩; obtain rfl : s1 = z_a := by simpa using gl
 replace g_a : pVote s0 = .ok (y_a, s1) := g_a; have hs1 : Small s1 := good_vote _ _ _ g_a hs0; intro a_b; refine ⟨fun ch ⟨e, g, hc⟩ => hc ▸ bad e (by simp only [pGuilt, pBind, g_a, show pVote s1 = _ from g]), fun _ _ => hs1, fun l_b_0 l_b_1 l_b_2 l_b_3 l_b_4 l_b_5 s2 ⟨y_b, z_b, g_b, gl⟩ => ?_⟩; obtain rfl : s2 = z_b := by simpa using gl
 replace g_b : pVote s1 = .ok (y_b, s2) := g_b; have hs2 : Small s2 := good_vote _ _ _ g_b hs1; refine ⟨⟨⟨y_a, y_b⟩, s2, by simp only [guiltR, pGuilt, pBind, g_a, g_b], rfl⟩, fun w hw => ?_⟩; obtain ⟨⟨_, ⟨x_a, w_a, e_a, p_a, h_a⟩⟩, ⟨x_b, w_b, e_b, p_b, h_b⟩⟩ := hw; cases e_a; replace p_a : pVote _ = .ok (_, _) := p_a; cases e_b; replace p_b : pVote _ = .ok (_, _) := p_b; exact ⟨⟨x_a, x_b⟩, s2, rfl, by simp only [guiltR, pGuilt, pBind, p_a, p_b]; first | done | rfl | simp [voteR], ⟨h_a, h_b⟩⟩
def pParcel : ByteArray → Got ParcelD := pBind pNum fun k => pBind pNum fun t => pBind pNum fun a => fun z => .ok (⟨k, t, a⟩, z)
def parcelR : Rdr ParcelD := { us := fun x => [.i x.k, .i x.t, .i x.a], cells := fun x => [.int .i64 x.k, .int .i64 x.t, .int .i64 x.a], strip := fun x => x, held := fun w x => True, p := pParcel }
def cfg_pparcel : Cfg := { con := [(58, 0)], lents := [(58, [(0, 208)])], mine := [(0, 208)], pans := [58] }
def vcd_pparcel : { v : VC // vcOf Tryz.prog cfg_pparcel 212 = v } := by refine ⟨?v, ?h⟩; rotate_left; conv => lhs; reduce
theorem vce_pparcel : vcOf Tryz.prog cfg_pparcel 212 = vcd_pparcel.1 := vcd_pparcel.2
set_option linter.unusedVariables false in
theorem pparcel_ok : KeepsL Tryz.prog 212 (elemC parcelR) cfg_pparcel.mine := by
 refine keepsL_v Tryz.func212 cfg_pparcel vce_pparcel [.p, .s] (elemC parcelR) [(58, PNumS)] ⟨pnum_ok, trivial⟩ (by kernel_rfl) (fun _ _ _ h => h) ?_; intro x0 s0 w hp; refine ⟨[], vc_use ?Q ?h ?g⟩
 case h => intro O C s I b; conv => lhs; reduce
 dsimp only [std]; simp only [ctrOf, invOf, List.lookup, Nat.reduceBEq, Option.getD_some, Int.reduceOfNat, Int.reduceNegSucc]; have hs0 : Small s0 := hp; have bad : ∀ e, pParcel s0 = .error e → (elemC parcelR).pan [.p x0, .s s0] (stopCh e) := fun e h => ⟨e, h, rfl⟩
 simp only [rdC, PNumS, numF]; intro a_k; refine ⟨fun ch ⟨e, g, hc⟩ => hc ▸ bad e (by simp only [pParcel, pBind, gI_err g]), fun _ _ => hs0, fun k s1 g_k => ?_⟩; replace g_k := gI_ok g_k; have hs1 : Small s1 := good_num _ _ _ g_k hs0; intro a_t; refine ⟨fun ch ⟨e, g, hc⟩ => hc ▸ bad e (by simp only [pParcel, pBind, g_k, gI_err g]), fun _ _ => hs1, fun t s2 g_t => ?_⟩; replace g_t := gI_ok g_t; have hs2 : Small s2 := good_num _ _ _ g_t hs1; intro a_a; refine ⟨fun ch ⟨e, g, hc⟩ => hc ▸ bad e (by simp only [pParcel, pBind, g_k, g_t, gI_err g]), fun _ _ => hs2, fun a s3 g_a => ?_⟩; replace g_a := gI_ok g_a; have hs3 : Small s3 := good_num _ _ _ g_a hs2; refine ⟨⟨⟨k, t, a⟩, s3, by simp only [parcelR, pParcel, pBind, g_k, g_t, g_a], rfl⟩, fun w hw => ?_⟩; obtain ⟨⟨⟨_, _⟩, _⟩, _⟩ := hw; exact ⟨⟨k, t, a⟩, s3, rfl, by simp only [parcelR, pParcel, pBind, g_k, g_t, g_a], trivial⟩
def cfg_gnum : Cfg := { con := [(138, 0), (58, 0)], loops := [(4, { slots := [8, 13], blks := [0], rows := [8], extra := [.var 5, .var 6] })], rows := [(8, 3)], lents := [(138, [(0, 208)]), (58, [(0, 208)])], mine := [(0, 208)], pans := [138, 58], fns := [(18, 58)] }
def vcd_gnum : { v : VC // vcOf Tryz.prog cfg_gnum 161 = v } := by refine ⟨?v, ?h⟩; rotate_left; conv => lhs; reduce
theorem vce_gnum : vcOf Tryz.prog cfg_gnum 161 = vcd_gnum.1 := vcd_gnum.2
theorem getsnum_ok : KeepsL Tryz.prog 161 (listC numR 58 1) cfg_gnum.mine := by
 refine keepsL_v Tryz.func161 cfg_gnum vce_gnum [.p, .i, .v, .s] (listC numR 58 1) [(138, PUpToS), (58, PNumS)] ⟨pupto_ok, pnum_ok, trivial⟩ (by kernel_rfl) (fun _ _ _ h => h) ?_; intro x0 x1 x2 x3 w hp; refine ⟨[(4, listInv numR)], vc_use ?Q ?h ?g⟩
 case h => intro O C s I b; conv => lhs; reduce
 dsimp only [std]; simp only [ctrOf, invOf, List.lookup, Nat.reduceBEq, Option.getD_some, Int.reduceOfNat, Int.reduceNegSucc]; obtain ⟨hs, rfl, hm⟩ : Small x3 ∧ x2 = .func (.func 58) #[] #[] ∧ x1 ≤ 1000000 := hp; simp only [PUpToS, PNumS, rdC, upToF, numF]; intro x4; refine ⟨fun ch ⟨e, h1, h2⟩ => h2 ▸ list_pan1 (gI_err h1) _, fun _ _ => hs, fun x5 x6 h1 => ?_⟩; have h1 := gI_ok h1; obtain ⟨i1, i2⟩ := list_init (R := numR) h1 hs hm; refine ⟨i1, fun w _ => i2 w, fun m xs k sk hi => ⟨fun hk => ⟨trivial, fun a => ⟨fun ch ⟨e, g1, g2⟩ => g2 ▸ list_pan2 h1 hi hk (gI_err g1) _, fun _ _ => hi.2.2.2.2.1, fun x s' g => ?_⟩⟩, fun hk A c => ?_⟩⟩
 ·have g := gI_ok g; obtain ⟨n1, n2, n3, n4, n5⟩ := list_next (R := numR) hi hk g (good_num _ _ _ g hi.2.2.2.2.1) 8 (by decide) (xs ++ [Value.int .i64 x]); exact ⟨n1, n2, n3, n4, fun w ⟨⟨_, f⟩, _⟩ => list_step (R := numR) hi.1 f g trivial, n5 _, trivial⟩
 ·obtain ⟨f1, f2⟩ := list_fin (R := numR) (A := A) (c := c) (a := x0) (fg := 58) (size := 1) h1 hi hk (.func (.func 58) #[] #[]); exact ⟨f1, fun w ⟨⟨_, f⟩, o⟩ => f2 f o⟩
def cfg_gseat : Cfg := { con := [(138, 0), (166, 0)], loops := [(4, { slots := [8, 13], blks := [0], rows := [8], extra := [.var 5, .var 6] })], rows := [(8, 226)], lents := [(138, [(0, 208)]), (166, [(0, 208)])], mine := [(0, 208)], pans := [138, 166], fns := [(18, 166)] }
def vcd_gseat : { v : VC // vcOf Tryz.prog cfg_gseat 165 = v } := by refine ⟨?v, ?h⟩; rotate_left; conv => lhs; reduce
theorem vce_gseat : vcOf Tryz.prog cfg_gseat 165 = vcd_gseat.1 := vcd_gseat.2
theorem getsseat_ok : KeepsL Tryz.prog 165 (listC seatR 166 2) cfg_gseat.mine := by
 refine keepsL_v Tryz.func165 cfg_gseat vce_gseat [.p, .i, .v, .s] (listC seatR 166 2) [(138, PUpToS), (166, elemC seatR)] ⟨pupto_ok, pseat_ok, trivial⟩ (by kernel_rfl) (fun _ _ _ h => h) ?_; intro x0 x1 x2 x3 w hp; refine ⟨[(4, listInv seatR)], vc_use ?Q ?h ?g⟩
 case h => intro O C s I b; conv => lhs; reduce
 dsimp only [std]; simp only [ctrOf, invOf, List.lookup, Nat.reduceBEq, Option.getD_some, Int.reduceOfNat, Int.reduceNegSucc]; obtain ⟨hs, rfl, hm⟩ : Small x3 ∧ x2 = .func (.func 166) #[] #[] ∧ x1 ≤ 1000000 := hp; simp only [PUpToS, rdC, upToF]; intro x4; refine ⟨fun ch ⟨e, h1, h2⟩ => h2 ▸ list_pan1 (gI_err h1) _, fun _ _ => hs, fun x5 x6 h1 => ?_⟩; have h1 := gI_ok h1; obtain ⟨i1, i2⟩ := list_init (R := seatR) h1 hs hm; refine ⟨i1, fun w _ => i2 w, fun m xs k sk hi => ⟨fun hk => ⟨trivial, fun a => ⟨fun ch ⟨e, g1, g2⟩ => g2 ▸ list_pan2 h1 hi hk g1 _, fun _ _ => hi.2.2.2.2.1, fun l0 l1 s' ⟨y, z, g, gl⟩ => ?_⟩⟩, fun hk A c => ?_⟩⟩
 ·obtain rfl : s' = z := by simpa using gl
  obtain ⟨n1, n2, n3, n4, n5⟩ := list_next (R := seatR) hi hk g (good_seat _ _ _ g hi.2.2.2.2.1) 16 (by decide) _; refine ⟨n1, n2, n3, n4, fun w ⟨⟨_, f⟩, ⟨x, z, e1, e2, e3⟩⟩ => ?_, n5 _, trivial⟩; cases e1; exact list_step (R := seatR) hi.1 f e2 e3
 ·obtain ⟨f1, f2⟩ := list_fin (R := seatR) (A := A) (c := c) (a := x0) (fg := 166) (size := 2) h1 hi hk (.func (.func 166) #[] #[]); exact ⟨f1, fun w ⟨⟨_, f⟩, o⟩ => f2 f o⟩
def cfg_gturn : Cfg := { con := [(138, 0), (172, 0)], loops := [(4, { slots := [8, 13], blks := [0], rows := [8], extra := [.var 5, .var 6] })], rows := [(8, 233)], lents := [(138, [(0, 208)]), (172, [(0, 208)])], mine := [(0, 208)], pans := [138, 172], fns := [(18, 172)] }
def vcd_gturn : { v : VC // vcOf Tryz.prog cfg_gturn 171 = v } := by refine ⟨?v, ?h⟩; rotate_left; conv => lhs; reduce
theorem vce_gturn : vcOf Tryz.prog cfg_gturn 171 = vcd_gturn.1 := vcd_gturn.2
theorem getsturn_ok : KeepsL Tryz.prog 171 (listC turnR 172 2) cfg_gturn.mine := by
 refine keepsL_v Tryz.func171 cfg_gturn vce_gturn [.p, .i, .v, .s] (listC turnR 172 2) [(138, PUpToS), (172, elemC turnR)] ⟨pupto_ok, pturn_ok, trivial⟩ (by kernel_rfl) (fun _ _ _ h => h) ?_; intro x0 x1 x2 x3 w hp; refine ⟨[(4, listInv turnR)], vc_use ?Q ?h ?g⟩
 case h => intro O C s I b; conv => lhs; reduce
 dsimp only [std]; simp only [ctrOf, invOf, List.lookup, Nat.reduceBEq, Option.getD_some, Int.reduceOfNat, Int.reduceNegSucc]; obtain ⟨hs, rfl, hm⟩ : Small x3 ∧ x2 = .func (.func 172) #[] #[] ∧ x1 ≤ 1000000 := hp; simp only [PUpToS, rdC, upToF]; intro x4; refine ⟨fun ch ⟨e, h1, h2⟩ => h2 ▸ list_pan1 (gI_err h1) _, fun _ _ => hs, fun x5 x6 h1 => ?_⟩; have h1 := gI_ok h1; obtain ⟨i1, i2⟩ := list_init (R := turnR) h1 hs hm; refine ⟨i1, fun w _ => i2 w, fun m xs k sk hi => ⟨fun hk => ⟨trivial, fun a => ⟨fun ch ⟨e, g1, g2⟩ => g2 ▸ list_pan2 h1 hi hk g1 _, fun _ _ => hi.2.2.2.2.1, fun l0 l1 s' ⟨y, z, g, gl⟩ => ?_⟩⟩, fun hk A c => ?_⟩⟩
 ·obtain rfl : s' = z := by simpa using gl
  obtain ⟨n1, n2, n3, n4, n5⟩ := list_next (R := turnR) hi hk g (good_turn _ _ _ g hi.2.2.2.2.1) 16 (by decide) _; refine ⟨n1, n2, n3, n4, fun w ⟨⟨_, f⟩, ⟨x, z, e1, e2, e3⟩⟩ => ?_, n5 _, trivial⟩; cases e1; exact list_step (R := turnR) hi.1 f e2 e3
 ·obtain ⟨f1, f2⟩ := list_fin (R := turnR) (A := A) (c := c) (a := x0) (fg := 172) (size := 2) h1 hi hk (.func (.func 172) #[] #[]); exact ⟨f1, fun w ⟨⟨_, f⟩, o⟩ => f2 f o⟩
def cfg_gnote : Cfg := { con := [(138, 0), (266, 0)], loops := [(4, { slots := [8, 13], blks := [0], rows := [8], extra := [.var 5, .var 6] })], rows := [(8, 322)], lents := [(138, [(0, 208)]), (266, [(0, 208)])], mine := [(0, 208)], pans := [138, 266], fns := [(18, 266)] }
def vcd_gnote : { v : VC // vcOf Tryz.prog cfg_gnote 265 = v } := by refine ⟨?v, ?h⟩; rotate_left; conv => lhs; reduce
theorem vce_gnote : vcOf Tryz.prog cfg_gnote 265 = vcd_gnote.1 := vcd_gnote.2
theorem getsnote_ok : KeepsL Tryz.prog 265 (listC noteR 266 2) cfg_gnote.mine := by
 refine keepsL_v Tryz.func265 cfg_gnote vce_gnote [.p, .i, .v, .s] (listC noteR 266 2) [(138, PUpToS), (266, elemC noteR)] ⟨pupto_ok, pnote_ok, trivial⟩ (by kernel_rfl) (fun _ _ _ h => h) ?_; intro x0 x1 x2 x3 w hp; refine ⟨[(4, listInv noteR)], vc_use ?Q ?h ?g⟩
 case h => intro O C s I b; conv => lhs; reduce
 dsimp only [std]; simp only [ctrOf, invOf, List.lookup, Nat.reduceBEq, Option.getD_some, Int.reduceOfNat, Int.reduceNegSucc]; obtain ⟨hs, rfl, hm⟩ : Small x3 ∧ x2 = .func (.func 266) #[] #[] ∧ x1 ≤ 1000000 := hp; simp only [PUpToS, rdC, upToF]; intro x4; refine ⟨fun ch ⟨e, h1, h2⟩ => h2 ▸ list_pan1 (gI_err h1) _, fun _ _ => hs, fun x5 x6 h1 => ?_⟩; have h1 := gI_ok h1; obtain ⟨i1, i2⟩ := list_init (R := noteR) h1 hs hm; refine ⟨i1, fun w _ => i2 w, fun m xs k sk hi => ⟨fun hk => ⟨trivial, fun a => ⟨fun ch ⟨e, g1, g2⟩ => g2 ▸ list_pan2 h1 hi hk g1 _, fun _ _ => hi.2.2.2.2.1, fun l0 l1 s' ⟨y, z, g, gl⟩ => ?_⟩⟩, fun hk A c => ?_⟩⟩
 ·obtain rfl : s' = z := by simpa using gl
  obtain ⟨n1, n2, n3, n4, n5⟩ := list_next (R := noteR) hi hk g (good_note _ _ _ g hi.2.2.2.2.1) 16 (by decide) _; refine ⟨n1, n2, n3, n4, fun w ⟨⟨_, f⟩, ⟨x, z, e1, e2, e3⟩⟩ => ?_, n5 _, trivial⟩; cases e1; exact list_step (R := noteR) hi.1 f e2 e3
 ·obtain ⟨f1, f2⟩ := list_fin (R := noteR) (A := A) (c := c) (a := x0) (fg := 266) (size := 2) h1 hi hk (.func (.func 266) #[] #[]); exact ⟨f1, fun w ⟨⟨_, f⟩, o⟩ => f2 f o⟩
def cfg_gvote : Cfg := { con := [(138, 0), (72, 0)], loops := [(4, { slots := [8, 13], blks := [0], rows := [8], extra := [.var 5, .var 6] })], rows := [(8, 42)], lents := [(138, [(0, 208)]), (72, [(0, 208)])], mine := [(0, 208)], pans := [138, 72], fns := [(18, 72)] }
def vcd_gvote : { v : VC // vcOf Tryz.prog cfg_gvote 252 = v } := by refine ⟨?v, ?h⟩; rotate_left; conv => lhs; reduce
theorem vce_gvote : vcOf Tryz.prog cfg_gvote 252 = vcd_gvote.1 := vcd_gvote.2
theorem getsvote_ok : KeepsL Tryz.prog 252 (listC voteR 72 6) cfg_gvote.mine := by
 refine keepsL_v Tryz.func252 cfg_gvote vce_gvote [.p, .i, .v, .s] (listC voteR 72 6) [(138, PUpToS), (72, elemC voteR)] ⟨pupto_ok, pvote_ok, trivial⟩ (by kernel_rfl) (fun _ _ _ h => h) ?_; intro x0 x1 x2 x3 w hp; refine ⟨[(4, listInv voteR)], vc_use ?Q ?h ?g⟩
 case h => intro O C s I b; conv => lhs; reduce
 dsimp only [std]; simp only [ctrOf, invOf, List.lookup, Nat.reduceBEq, Option.getD_some, Int.reduceOfNat, Int.reduceNegSucc]; obtain ⟨hs, rfl, hm⟩ : Small x3 ∧ x2 = .func (.func 72) #[] #[] ∧ x1 ≤ 1000000 := hp; simp only [PUpToS, rdC, upToF]; intro x4; refine ⟨fun ch ⟨e, h1, h2⟩ => h2 ▸ list_pan1 (gI_err h1) _, fun _ _ => hs, fun x5 x6 h1 => ?_⟩; have h1 := gI_ok h1; obtain ⟨i1, i2⟩ := list_init (R := voteR) h1 hs hm; refine ⟨i1, fun w _ => i2 w, fun m xs k sk hi => ⟨fun hk => ⟨trivial, fun a => ⟨fun ch ⟨e, g1, g2⟩ => g2 ▸ list_pan2 h1 hi hk g1 _, fun _ _ => hi.2.2.2.2.1, fun l0 l1 l2 l3 l4 l5 s' ⟨y, z, g, gl⟩ => ?_⟩⟩, fun hk A c => ?_⟩⟩
 ·obtain rfl : s' = z := by simpa using gl
  obtain ⟨n1, n2, n3, n4, n5⟩ := list_next (R := voteR) hi hk g (good_vote _ _ _ g hi.2.2.2.2.1) 48 (by decide) _; refine ⟨n1, n2, n3, n4, fun w ⟨⟨_, f⟩, ⟨x, z, e1, e2, e3⟩⟩ => ?_, n5 _, trivial⟩; cases e1; exact list_step (R := voteR) hi.1 f e2 e3
 ·obtain ⟨f1, f2⟩ := list_fin (R := voteR) (A := A) (c := c) (a := x0) (fg := 72) (size := 6) h1 hi hk (.func (.func 72) #[] #[]); exact ⟨f1, fun w ⟨⟨_, f⟩, o⟩ => f2 f o⟩
def cfg_gguilt : Cfg := { con := [(138, 0), (108, 0)], loops := [(4, { slots := [8, 13], blks := [0], rows := [8], extra := [.var 5, .var 6] })], rows := [(8, 99)], lents := [(138, [(0, 208)]), (108, [(0, 208)])], mine := [(0, 208)], pans := [138, 108], fns := [(18, 108)] }
def vcd_gguilt : { v : VC // vcOf Tryz.prog cfg_gguilt 248 = v } := by refine ⟨?v, ?h⟩; rotate_left; conv => lhs; reduce
theorem vce_gguilt : vcOf Tryz.prog cfg_gguilt 248 = vcd_gguilt.1 := vcd_gguilt.2
theorem getsguilt_ok : KeepsL Tryz.prog 248 (listC guiltR 108 12) cfg_gguilt.mine := by
 refine keepsL_v Tryz.func248 cfg_gguilt vce_gguilt [.p, .i, .v, .s] (listC guiltR 108 12) [(138, PUpToS), (108, elemC guiltR)] ⟨pupto_ok, pguilt_ok, trivial⟩ (by kernel_rfl) (fun _ _ _ h => h) ?_; intro x0 x1 x2 x3 w hp; refine ⟨[(4, listInv guiltR)], vc_use ?Q ?h ?g⟩
 case h => intro O C s I b; conv => lhs; reduce
 dsimp only [std]; simp only [ctrOf, invOf, List.lookup, Nat.reduceBEq, Option.getD_some, Int.reduceOfNat, Int.reduceNegSucc]; obtain ⟨hs, rfl, hm⟩ : Small x3 ∧ x2 = .func (.func 108) #[] #[] ∧ x1 ≤ 1000000 := hp; simp only [PUpToS, rdC, upToF]; intro x4; refine ⟨fun ch ⟨e, h1, h2⟩ => h2 ▸ list_pan1 (gI_err h1) _, fun _ _ => hs, fun x5 x6 h1 => ?_⟩; have h1 := gI_ok h1; obtain ⟨i1, i2⟩ := list_init (R := guiltR) h1 hs hm; refine ⟨i1, fun w _ => i2 w, fun m xs k sk hi => ⟨fun hk => ⟨trivial, fun a => ⟨fun ch ⟨e, g1, g2⟩ => g2 ▸ list_pan2 h1 hi hk g1 _, fun _ _ => hi.2.2.2.2.1, fun l0 l1 l2 l3 l4 l5 l6 l7 l8 l9 l10 l11 s' ⟨y, z, g, gl⟩ => ?_⟩⟩, fun hk A c => ?_⟩⟩
 ·obtain rfl : s' = z := by simpa using gl
  obtain ⟨n1, n2, n3, n4, n5⟩ := list_next (R := guiltR) hi hk g (good_guilt _ _ _ g hi.2.2.2.2.1) 96 (by decide) _; refine ⟨n1, n2, n3, n4, fun w ⟨⟨_, f⟩, ⟨x, z, e1, e2, e3⟩⟩ => ?_, n5 _, trivial⟩; cases e1; exact list_step (R := guiltR) hi.1 f e2 e3
 ·obtain ⟨f1, f2⟩ := list_fin (R := guiltR) (A := A) (c := c) (a := x0) (fg := 108) (size := 12) h1 hi hk (.func (.func 108) #[] #[]); exact ⟨f1, fun w ⟨⟨_, f⟩, o⟩ => f2 f o⟩
end Go.Proofs.YtjhaafbbdgjagaaGreat
