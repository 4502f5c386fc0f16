/- Of the texts Code10. -/
import Derived.Test.YtgjbcahpgkchfaaProg
import Derived.Test.YtgjbcahpgkchfaaG10
import Derived.Test.YtgjbcahpgkchfaaG02
import Derived.Test.YtgjbcahpgkchfaaG35
set_option linter.unusedSimpArgs false
set_option linter.unusedVariables false
namespace Go.Proofs.Ytgjbcahpgkchfaa
open Go.RowKit
theorem fitR {nps nns : Nat} {p : Pce} {i : Ins} (h : 1 ≤ i.op ∧ i.op ≤ 30) : fitS nps nns p i = (decide (0 ≤ i.a) && decide (i.a ≤ rmostS nps p i) && decide (0 ≤ i.b) && decide (i.b ≤ if i.op = 30 then (nns : Int) - 1 else 0)) := by
 unfold fitS; rw [decide_eq_true h.1, decide_eq_true h.2, Bool.true_and, Bool.true_and]
 by_cases h0 : 0 ≤ i.a
 ·rw [show decide (i.a ≤ mostS nps p i) = decide (i.a ≤ rmostS nps p i) from decide_eq_decide.mpr (rmost_iff h0).symm]
 ·rw [decide_eq_false h0]; simp
set_option maxRecDepth 100000 in
theorem rflows_any (ps : List Pce) (nns : Nat) (p : Pce) (A A' Ab : Option Addr) (c c' cb B : Nat) (w : World) (hP : PcsR w B A ps) (hI : InsR w B Ab p.body) (hB : B ≤ w.heap.size) (hfew : Few ps) (hfit : ∀ x, x ∈ p.body → Fit ps.length p.body.length x) (hl : -9223372036854775807 ≤ p.locals ∧ p.locals ≤ 32) (hbl : p.body.length ≤ 2048) (hps : ps.length ≤ 32) (b : Bool) (hfl : IsFlow ps p.body b) :
  Calls Try.prog 20 #[codV A ps.length c A' nns c', pceV p Ab cb] w fun e w' => e = .returned (.bool b) ∧ Below w.heap.size w w' := by
 have hR := fun W h1 h2 h3 => reached_any ps nns p A A' Ab c c' cb B W h1 h2 h3 hfew hfit hl hbl hps b hfl
 unfold codV pceV at hR; unfold codV pceV; have hbel : ∀ o o' : Obj, Below w.heap.size w ((w.alloc o).alloc o') := fun o o' => ((Below.refl _ _).alloc (Nat.le_refl _) o).alloc (by simp) o'
 have hbelB : ∀ o o' : Obj, Below B w ((w.alloc o).alloc o') := fun o o' => (hbel o o').mono hB
 have hcl := fun o o' => hR ((w.alloc o).alloc o') (hP.below (hbelB o o')) (hI.below (hbelB o o')) (by simp; omega)
 clear hR hP hI hfl; go_enter Try.func20, Try.ntmps20; go_wp2_with fail; refine (hcl _ _).mono ?_; rintro e w1 ⟨⟨v, rfl, _⟩, hb1⟩; go_wp2_with fail; go_ret; exact ⟨rfl, (hbel _ _).trans (hb1.mono (by simp; omega))⟩
set_option maxRecDepth 100000 in
set_option maxHeartbeats 8000000 in
theorem rcodeCheck_any (fl : Pce → Bool) (ps : List Pce) (nns : Nat) (A A' : Option Addr) (c c' B : Nat) (w : World) (hP : PcsR w B A ps) (hB : B ≤ w.heap.size) (hfl : ∀ p, IsFlow ps p.body (fl p)) (hps : ps.length ≤ maxLen) (hbl : ∀ p ∈ ps, p.body.length ≤ maxLen) (hnn : nns ≤ maxLen) :
  Calls Try.prog 6 #[codV A ps.length c A' nns c'] w fun e w' => e = .returned (.int .i64 (chkS fl ps nns)) ∧ Below w.heap.size w w' := by
 unfold maxLen at *
 by_cases h32 : 32 < ps.length
 ·have HX := Lib.hid (chk_long (fl := fl) (nns := nns) h32); generalize chkS fl ps nns = X at *; obtain rfl := HX.out; have h32i : (32 : Int) < (ps.length : Int) := by omega
  unfold codV; go_enter Try.func6, Try.ntmps6; go_wp2_with fail; go_ret; exact ⟨rfl, (Below.refl _ _).alloc (Nat.le_refl _) _⟩
 have h32i : ¬ (32 : Int) < (ps.length : Int) := by omega
 have HBIG := Lib.hid (chk_big (fl := fl) (ps := ps) (nns := nns)); have HBAD := Lib.hid (chk_bad (fl := fl) (nns := nns) h32); have HNO := Lib.hid (chk_no (fl := fl) (nns := nns) h32); have HOK := Lib.hid (chk_ok (fl := fl) (nns := nns) h32); generalize chkS fl ps nns = X at *; have hF := fun p i Ab cb W hP2 hB2 hop hl hb => table_any ps nns p i A A' Ab c c' cb B W hP2 hB2 hop hl hb (by omega)
 have hL := fun p Ab cb W hP hI hB2 hfew hfit hl hb => rflows_any ps nns p A A' Ab c c' cb B W hP hI hB2 hfew hfit hl hb (by omega) (fl p) (hfl p)
 unfold codV pceV insV at hF; unfold codV pceV at hL; unfold codV; clear hfl; go_enter Try.func6, Try.ntmps6; go_wp2_with fail
 go_loopw [3] (fun z wr => ∃ k : Nat, z = .int .i64 (k : Int) ∧ k ≤ ps.length ∧ (ps.drop k).any bigB = ps.any bigB ∧ Blk wr w.heap.size 25 #[.slice A ps.length c, .slice A' nns c'] ∧ Below w.heap.size w wr) (fun z _ => ps.length - (intOf z).toNat)
 case atStart => exact ⟨0, rfl, by omega, rfl, Blk.new _ _ _, (Below.refl _ _).alloc (Nat.le_refl _) _⟩
 case round =>
  obtain ⟨k, rfl, hk, he, hC, hb⟩ := hrel; have hz := hb.size; have hc0 := hC.c 0 rfl; have hc1 := hC.c 1 rfl; have hcA := fun o => hC.cell_a 0 (Value.slice A ps.length c) rfl o
  by_cases hlt : k < ps.length
  ·as_aux_lemma =>
   clear hF hL HBAD HNO HOK; have hki : (k : Int) < (ps.length : Int) := by omega
   have hbp := hbl _ (List.getElem_mem hlt); have HB1 := Lib.hid (fun h => any_head hlt (bigB_true (p := (ps[k]'hlt)) h)); have HS := Lib.hid (fun h => any_step hlt (bigB_false (p := (ps[k]'hlt)) h) he); obtain ⟨pb, off, Ab, cb, rfl, hbB, k0, k1, k2, k3, k4, hI⟩ := (hP.below (hb.mono hB)) k hlt; clear he hP hI hbl; generalize ps[k] = p at *; obtain ⟨nm, opn, prm, loc, body⟩ := p; simp only at k0 k1 k2 k3 k4 hbp HB1 HS; have hnew : Blk (wr.alloc (.cells #[.string (bs nm), .bool opn, .int .i64 prm, .int .i64 loc, .slice Ab body.length cb] 34)) wr.heap.size 34 #[.string (bs nm), .bool opn, .int .i64 prm, .int .i64 loc, .slice Ab body.length cb] := Blk.new _ _ _
   by_cases a1 : body.length ≤ 2048
   ·have d1 : decide ((2048 : Int) < (body.length : Int)) = false := decide_eq_false (by omega)
    by_cases a2 : loc ≤ 32
    ·have d2 : decide ((32 : Int) < loc) = false := decide_eq_false (by omega)
     by_cases a3 : prm ≤ 8
     ·have d3 : decide ((8 : Int) < prm) = false := decide_eq_false (by omega); go_wp2_with fail
      go_roundw
      case rel => exact ⟨k + 1, by go_num, by omega, HS.out ⟨a1, a2, a3⟩, hC.alloc _, hb.alloc hz _⟩
      case measure => simp [intOf]; omega
     ·have d3 : decide ((8 : Int) < prm) = true := decide_eq_true (by omega); obtain rfl := HBIG.out (HB1.out (by omega)); go_wp2_with fail; go_ret; exact ⟨rfl, hb.alloc hz _⟩
    ·have d2 : decide ((32 : Int) < loc) = true := decide_eq_true (by omega); obtain rfl := HBIG.out (HB1.out (by omega)); go_wp2_with fail; go_ret; exact ⟨rfl, hb.alloc hz _⟩
   ·have d1 : decide ((2048 : Int) < (body.length : Int)) = true := decide_eq_true (by omega); obtain rfl := HBIG.out (HB1.out (by omega)); go_wp2_with fail; go_ret; exact ⟨rfl, hb.alloc hz _⟩
  ·as_aux_lemma =>
   have hki : ¬ (k : Int) < (ps.length : Int) := by omega
   have hbig := any_end (by omega) he; have HBAD := Lib.hid (HBAD.out hbig); have HNO := Lib.hid (HNO.out hbig); have HOK := Lib.hid (HOK.out hbig); have HNB := Lib.hid (fun p (hp : p ∈ ps) => not_big hbig hp); have HFW := Lib.hid (fun h2 => few_of (nns := nns) hbig h2 h32); clear hbig he HBIG hlt hk; obtain ⟨w0, rfl⟩ : ∃ w0 : World, w0 = wr := ⟨_, rfl⟩
   go_wp2_with fail
   go_loopw [5] (fun z wr => ∃ k : Nat, z = .int .i64 (k : Int) ∧ k ≤ ps.length ∧ (ps.drop k).any (badB ps.length nns) = ps.any (badB ps.length nns) ∧ Blk wr w.heap.size 25 #[.slice A ps.length c, .slice A' nns c'] ∧ Below w.heap.size w wr) (fun z _ => ps.length - (intOf z).toNat)
   case atStart => exact ⟨0, rfl, by omega, rfl, hC, hb⟩
   case round =>
    clear hc0 hc1 hcA hC hb hz hki; obtain ⟨k, rfl, hk, he, hC, hb⟩ := hrel; have hz := hb.size; have hc0 := hC.c 0 rfl; have hc1 := hC.c 1 rfl; have hcA := fun o => hC.cell_a 0 (Value.slice A ps.length c) rfl o
    by_cases hlt : k < ps.length
    ·as_aux_lemma =>
     clear hL HNO HOK HFW; have hki : (k : Int) < (ps.length : Int) := by omega
     obtain ⟨hbp, hlp, hpp⟩ := HNB.out _ (List.getElem_mem hlt); have HB1 := Lib.hid (fun h => HBAD.out (any_head hlt (badB_par (nns := nns) (nps := ps.length) (p := (ps[k]'hlt)) h))); have HB2 := Lib.hid (fun h => HBAD.out (any_head hlt (badB_body (nns := nns) (nps := ps.length) (p := (ps[k]'hlt)) h))); have HS := Lib.hid (fun h h2 => any_step hlt (badB_ok (nns := nns) (nps := ps.length) (p := (ps[k]'hlt)) h h2) he); have hFk := fun i Ab cb => hF (ps[k]'hlt) i Ab cb
     obtain ⟨pb, off, Ab, cb, rfl, hbB, k0, k1, k2, k3, k4, hI⟩ := (hP.below (hb.mono hB)) k hlt; clear he hbl HBAD HNB hF; generalize ps[k] = p at *; obtain ⟨nm, opn, prm, loc, body⟩ := p; simp only at k0 k1 k2 k3 k4 hbp hlp hpp HB1 HB2 HS hFk hI
     by_cases a1 : prm < 0
     ·have d1 : decide (prm < 0) = true := decide_eq_true a1; obtain rfl := HB1.out (.inl a1); clear HB2 HS hFk; go_wp2_with fail; go_ret; exact ⟨rfl, hb.alloc hz _⟩
     have d1 : decide (prm < 0) = false := decide_eq_false a1
     by_cases a2 : loc < prm
     ·have d2 : decide (loc < prm) = true := decide_eq_true a2; obtain rfl := HB1.out (.inr a2); clear HB2 HS hFk; go_wp2_with fail; go_ret; exact ⟨rfl, hb.alloc hz _⟩
     have d2 : decide (loc < prm) = false := decide_eq_false a2; have HS := Lib.hid (HS.out (by omega)); clear HB1; go_wp2_with fail; generalize hp2 : (⟨nm, opn, prm, loc, body⟩ : Pce) = p2 at HB2 HS hFk; have hN : Blk (wr.alloc (.cells #[.string (bs nm), .bool opn, .int .i64 prm, .int .i64 loc, .slice Ab body.length cb] 34)) wr.heap.size 34 #[.string (bs nm), .bool opn, .int .i64 prm, .int .i64 loc, .slice Ab body.length cb] := Blk.new _ _ _; have hz2 : w.heap.size < wr.heap.size := hC.lt; have hC2 := hC.alloc (.cells #[.string (bs nm), .bool opn, .int .i64 prm, .int .i64 loc, .slice Ab body.length cb] 34); have hb2 := hb.alloc hz (.cells #[.string (bs nm), .bool opn, .int .i64 prm, .int .i64 loc, .slice Ab body.length cb] 34); have hI2 : InsR wr wr.heap.size Ab body := fun j hj => by
      obtain ⟨b', o', e1, e2, e3⟩ := hI j hj; exact ⟨b', o', e1, by omega, e3⟩
     generalize hwg : wr.heap.size = g at *; obtain ⟨w1, rfl⟩ : ∃ w1 : World, w1 = wr := ⟨_, rfl⟩
     go_loopw [7] (fun z wr => ∃ j : Nat, z = .int .i64 (j : Int) ∧ j ≤ body.length ∧ (body.drop j).all (fitS ps.length nns p2) = body.all (fitS ps.length nns p2) ∧ Blk wr w.heap.size 25 #[.slice (some ⟨pb, off, none⟩) ps.length c, .slice A' nns c'] ∧ Blk wr g 34 #[.string (bs nm), .bool opn, .int .i64 prm, .int .i64 loc, .slice Ab body.length cb] ∧ Below w.heap.size w wr ∧ Below g w1 wr) (fun z _ => body.length - (intOf z).toNat)
     case atStart => exact ⟨0, rfl, by omega, rfl, hC2, hN, hb2, (Below.refl _ _).alloc (by omega) _⟩
     case round =>
      clear hc0 hc1 hcA hC hb hz hki k0 k1 k2 k3 k4 d1 d2 hC2 hb2 hN; obtain ⟨j, rfl, hj, hf, hC, hN, hb, hb1⟩ := hrel; have hz := hb.size; have hz1 := hb1.size; have hgl := hN.lt; have hc0 := hC.c 0 rfl; have hc1 := hC.c 1 rfl; have hcA := fun o => hC.cell_a 0 (Value.slice _ ps.length c) rfl o
      have hcB := fun o => hC.cell_a 1 (Value.slice A' nns c') rfl o
      have n0 := hN.c 0 rfl; have n1 := hN.c 1 rfl; have n2 := hN.c 2 rfl; have n3 := hN.c 3 rfl; have n4 := hN.c 4 rfl; have nA0 := fun o => hN.cell_a 0 (Value.string (bs nm)) rfl o
      have nA1 := fun o => hN.cell_a 1 (Value.bool opn) rfl o
      have nA2 := fun o => hN.cell_a 2 (Value.int .i64 prm) rfl o
      have nA3 := fun o => hN.cell_a 3 (Value.int .i64 loc) rfl o
      have nA4 := fun o => hN.cell_a 4 (Value.slice Ab body.length cb) rfl o
      by_cases hlt2 : j < body.length
      ·have hji : (j : Int) < (body.length : Int) := by omega
       have hcall := fun Ab cb W h1 h2 h3 => hFk (body[j]'hlt2) Ab cb W h1 h2 h3 ⟨by omega, hlp⟩ hbp
       have HBd := Lib.hid (fun h => HB2.out (all_head hlt2 h)); have HSt := Lib.hid (fun h => all_step hlt2 h hf); have HFO := Lib.hid (fun h => fit_op (nps := ps.length) (nns := nns) (p := p2) (i := (body[j]'hlt2)) h); have HFR := Lib.hid (fun h => fitR (nps := ps.length) (nns := nns) (p := p2) (i := (body[j]'hlt2)) h); generalize fitS ps.length nns p2 body[j] = q at HBd HSt HFO HFR; generalize rmostS ps.length p2 body[j] = R at hcall HFR; generalize rtakesS ps body[j] = T1 at hcall; generalize rleavesS ps.length body[j] = T2 at hcall; obtain ⟨ib, io, rfl, hib, i0, i1, i2⟩ := (hI2.below hb1) j hlt2; have hPk := hP; clear hI2 hFk hP hf HB2 HS; generalize body[j] = x at *; obtain ⟨iop, ia, ibb⟩ := x; simp only at hcall i0 i1 i2 HFO HFR; have hbq := hb.alloc hz (.cells #[.int .i64 iop, .int .i64 ia, .int .i64 ibb] 31); have hbq1 := hb1.alloc (by omega) (.cells #[.int .i64 iop, .int .i64 ia, .int .i64 ibb] 31); have hCq := hC.alloc (.cells #[.int .i64 iop, .int .i64 ia, .int .i64 ibb] 31); have hNq := hN.alloc (.cells #[.int .i64 iop, .int .i64 ia, .int .i64 ibb] 31); have hIq : Blk (wr.alloc (.cells #[.int .i64 iop, .int .i64 ia, .int .i64 ibb] 31)) wr.heap.size 31 #[.int .i64 iop, .int .i64 ia, .int .i64 ibb] := Blk.new _ _ _
       by_cases o1 : iop < 1
       ·obtain rfl := HFO.out (by omega); obtain rfl := HBd.out rfl; have e1 : decide (iop < 1) = true := decide_eq_true o1; clear HFO HFR HSt HBd hcall; go_wp2_with fail; go_ret; exact ⟨rfl, hbq⟩
       have e1 : decide (iop < 1) = false := decide_eq_false o1
       by_cases o2 : 30 < iop
       ·obtain rfl := HFO.out (by omega); obtain rfl := HBd.out rfl; have e2 : decide ((30 : Int) < iop) = true := decide_eq_true o2; clear HFO HFR HSt HBd hcall; go_wp2_with fail; go_ret; exact ⟨rfl, hbq⟩
       have e2 : decide ((30 : Int) < iop) = false := decide_eq_false o2; have HFR := Lib.hid (HFR.out (by omega)); clear HFO; have hcl := hcall (some ⟨ib, io, none⟩) cb (wr.alloc (.cells #[.int .i64 iop, .int .i64 ia, .int .i64 ibb] 31)) (hPk.below (hbq.mono hB)) (by have := hbq.size; omega) (by omega); clear hcall; go_wp2_with fail; refine hcl.mono ?_; rintro e w2 ⟨rfl, hb2⟩; have hbr := hbq.trans (hb2.mono hbq.size); have hbr1 := hbq1.trans (hb2.mono (by have := hbq1.size; omega)); have hCr := hCq.below hb2 hCq.lt; have hNr := hNq.below hb2 hNq.lt; have hIr := hIq.below hb2 hIq.lt; clear hcl hbq hbq1 hCq hNq hIq hb2 hC hN hb hb1 hc0 hc1 hcA hcB n0 n1 n2 n3 n4 nA0 nA1 nA2 nA3 nA4 i0 i1 i2; have x0 := hIr.c 0 rfl; have x1 := hIr.c 1 rfl; have x2 := hIr.c 2 rfl; have y1 := hCr.c 1 rfl; have key : ∀ (M : Int) (_ : M = if iop = 30 then (nns : Int) - 1 else 0), q = (decide (0 ≤ ia) && decide (ia ≤ R) && decide (0 ≤ ibb) && decide (ibb ≤ M)) := fun M h => by rw [HFR.out, h]
       have KEY := Lib.hid key; clear key HFR; obtain ⟨M, hM⟩ : ∃ M : Int, M = (nns : Int) - 1 := ⟨_, rfl⟩
       have hw3 : IntKind.i64.wrap ((nns : Int) - 1) = M := by rw [hM]; exact IntWalk.i64_in _ (by omega)
       have hw4 : wrap64 ((nns : Int) - 1) = M := by rw [← IntWalk.i64_left]; exact hw3
       by_cases h30 : iop = 30
       ·subst h30; have KY := Lib.hid (KEY.out M (by simp [hM])); clear KEY hM
        by_cases t0 : ia < 0
        ·obtain rfl : q = false := by rw [KY.out]; simp; omega
         obtain rfl := HBd.out rfl; have f0 : decide (ia < 0) = true := decide_eq_true t0; clear KY HSt HBd; go_wp2_with fail; go_ret; exact ⟨rfl, hbr⟩
        have f0 : decide (ia < 0) = false := decide_eq_false t0
        by_cases t1 : R < ia
        ·obtain rfl : q = false := by rw [KY.out]; simp; omega
         obtain rfl := HBd.out rfl; have f1 : decide (R < ia) = true := decide_eq_true t1; clear KY HSt HBd; go_wp2_with fail; go_ret; exact ⟨rfl, hbr⟩
        have f1 : decide (R < ia) = false := decide_eq_false t1
        by_cases t2 : ibb < 0
        ·obtain rfl : q = false := by rw [KY.out]; simp; omega
         obtain rfl := HBd.out rfl; have f2 : decide (ibb < 0) = true := decide_eq_true t2; clear KY HSt HBd; go_wp2_with fail; go_ret; exact ⟨rfl, hbr⟩
        have f2 : decide (ibb < 0) = false := decide_eq_false t2
        by_cases t3 : M < ibb
        ·obtain rfl : q = false := by rw [KY.out]; simp; omega
         obtain rfl := HBd.out rfl; have f3 : decide (M < ibb) = true := decide_eq_true t3; clear KY HSt HBd; go_wp2_with fail; go_ret; exact ⟨rfl, hbr⟩
        have f3 : decide (M < ibb) = false := decide_eq_false t3; obtain rfl : q = true := by rw [KY.out]; simp; omega
        have hst := Lib.hid (HSt.out rfl); clear KY HSt HBd; go_wp2_with fail
        go_roundw
        case rel => exact ⟨j + 1, by go_num, by omega, hst.out, hCr, hNr, hbr, hbr1⟩
        case measure => simp [intOf]; omega
       ·have hb30 : (iop == 30) = false := beq_eq_false_iff_ne.2 h30; have KY := Lib.hid (KEY.out 0 (by rw [if_neg h30])); clear KEY hw3 hw4 hM
        by_cases t0 : ia < 0
        ·obtain rfl : q = false := by rw [KY.out]; simp; omega
         obtain rfl := HBd.out rfl; have f0 : decide (ia < 0) = true := decide_eq_true t0; clear KY HSt HBd; go_wp2_with fail; go_ret; exact ⟨rfl, hbr⟩
        have f0 : decide (ia < 0) = false := decide_eq_false t0
        by_cases t1 : R < ia
        ·obtain rfl : q = false := by rw [KY.out]; simp; omega
         obtain rfl := HBd.out rfl; have f1 : decide (R < ia) = true := decide_eq_true t1; clear KY HSt HBd; go_wp2_with fail; go_ret; exact ⟨rfl, hbr⟩
        have f1 : decide (R < ia) = false := decide_eq_false t1
        by_cases t2 : ibb < 0
        ·obtain rfl : q = false := by rw [KY.out]; simp; omega
         obtain rfl := HBd.out rfl; have f2 : decide (ibb < 0) = true := decide_eq_true t2; clear KY HSt HBd; go_wp2_with fail; go_ret; exact ⟨rfl, hbr⟩
        have f2 : decide (ibb < 0) = false := decide_eq_false t2
        by_cases t3 : (0 : Int) < ibb
        ·obtain rfl : q = false := by rw [KY.out]; simp; omega
         obtain rfl := HBd.out rfl; have f3 : decide ((0 : Int) < ibb) = true := decide_eq_true t3; clear KY HSt HBd; go_wp2_with fail; go_ret; exact ⟨rfl, hbr⟩
        have f3 : decide ((0 : Int) < ibb) = false := decide_eq_false t3; obtain rfl : q = true := by rw [KY.out]; simp; omega
        have hst := Lib.hid (HSt.out rfl); clear KY HSt HBd; go_wp2_with fail
        go_roundw
        case rel => exact ⟨j + 1, by go_num, by omega, hst.out, hCr, hNr, hbr, hbr1⟩
        case measure => simp [intOf]; omega
      ·have hji : ¬ (j : Int) < (body.length : Int) := by omega
       have hs := HS.out (all_end (by omega) hf); clear HB2 HS hFk hf hI2 hP; go_wp2_with fail
       go_roundw
       case rel => exact ⟨k + 1, by go_num, by omega, hs, hC, hb⟩
       case measure => simp [intOf]; omega
    ·as_aux_lemma =>
     have hki : ¬ (k : Int) < (ps.length : Int) := by omega
     have hbad := any_end (by omega) he; have HOK := Lib.hid (HOK.out hbad); obtain ⟨hfew, hfit⟩ := HFW.out hbad; have HFT := Lib.hid hfit; clear hbad hfit he HBAD HNB HFW hF hlt hk; obtain ⟨w1, rfl⟩ : ∃ w1 : World, w1 = wr := ⟨_, rfl⟩
     go_wp2_with fail
     go_loopw [13] (fun z wr => ∃ k : Nat, z = .int .i64 (k : Int) ∧ k ≤ ps.length ∧ (ps.drop k).all fl = ps.all fl ∧ Blk wr w.heap.size 25 #[.slice A ps.length c, .slice A' nns c'] ∧ Below w.heap.size w wr) (fun z _ => ps.length - (intOf z).toNat)
     case atStart => exact ⟨0, rfl, by omega, rfl, hC, hb⟩
     case round =>
      clear hc0 hc1 hcA hC hb hz hki; obtain ⟨k, rfl, hk, he, hC, hb⟩ := hrel; have hz := hb.size; have hc0 := hC.c 0 rfl; have hc1 := hC.c 1 rfl; have hcA := fun o => hC.cell_a 0 (Value.slice A ps.length c) rfl o
      have hcB := fun o => hC.cell_a 1 (Value.slice A' nns c') rfl o
      by_cases hlt : k < ps.length
      ·have hki : (k : Int) < (ps.length : Int) := by omega
       obtain ⟨hfx, hb48, hlo, hl32⟩ := HFT.out _ (List.getElem_mem hlt); have hcall := fun Ab cb W h1 h2 h3 => hL (ps[k]'hlt) Ab cb W h1 h2 h3 hfew hfx ⟨hlo, hl32⟩ hb48
       have HH := Lib.hid (fun h => HNO.out (all_head hlt h)); have HS := Lib.hid (fun h => all_step hlt h he); have HEND := Lib.hid (Nat.le_refl 0); clear hfx HFT hL he; have hPw := hP.below (hb.mono hB); obtain ⟨pb, off, Ab, cb, rfl, hbB, k0, k1, k2, k3, k4, hI⟩ := hPw k hlt; generalize fl ps[k] = q at *; generalize ps[k] = p at *; obtain ⟨nm, opn, prm, loc, body⟩ := p; simp only at k0 k1 k2 k3 k4 hcall hI hb48 hlo hl32; have r0 : wr.drew.cell? ⟨w.heap.size, 0, none⟩ = some (Value.slice (some ⟨pb, off, none⟩) ps.length c) := hc0; have r1 : wr.drew.cell? ⟨w.heap.size, 1, none⟩ = some (Value.slice A' nns c') := hc1; have r2 : wr.drew.cell? ⟨pb, off + k * 5, none⟩ = some (.string (bs nm)) := k0; have r3 : wr.drew.cell? ⟨pb, off + k * 5 + 1, none⟩ = some (.bool opn) := k1; have r4 : wr.drew.cell? ⟨pb, off + k * 5 + 2, none⟩ = some (.int .i64 prm) := k2; have r5 : wr.drew.cell? ⟨pb, off + k * 5 + 3, none⟩ = some (.int .i64 loc) := k3; have r6 : wr.drew.cell? ⟨pb, off + k * 5 + 4, none⟩ = some (.slice Ab body.length cb) := k4; have hbq : Below w.heap.size w wr.drew := hb.drew; have hCq : Blk wr.drew w.heap.size 25 #[.slice (some ⟨pb, off, none⟩) ps.length c, .slice A' nns c'] := Blk.drew hC; have hcl := hcall Ab cb wr.drew (hPw.below (Below.refl B wr).drew) (hI.below (Below.refl B wr).drew) (by have := hbq.size; omega); clear hcall hPw hI hP; go_wp2_with fail; refine wp_region_tail 6 (by kernel_rfl) (by kernel_rfl) ?_; simp only [List.take_succ_cons, List.take_zero, List.drop_succ_cons, List.drop_zero]
       repeat (go_big_quiet_step (fail))
       refine wpQuiet_nil ?_; go_wp2_with fail; refine hcl.mono ?_; rintro e w2 ⟨rfl, hb2⟩; cases q
       ·obtain rfl := HH.out rfl; go_wp2_with fail; go_ret; exact ⟨rfl, hbq.trans (hb2.mono hbq.size)⟩
       ·have hst := Lib.hid (HS.out rfl); clear HH HS hcl; go_wp2_with fail
        go_roundw
        case rel => exact ⟨k + 1, by go_num, by omega, hst.out, hCq.below hb2 hCq.lt, hbq.trans (hb2.mono hbq.size)⟩
        case measure => simp [intOf]; omega
      ·have hki : ¬ (k : Int) < (ps.length : Int) := by omega
       obtain rfl := HOK.out (all_end (by omega) he); clear HNO HFT hL he; go_wp2_with fail; go_ret; exact ⟨rfl, hb⟩
end Go.Proofs.Ytgjbcahpgkchfaa
