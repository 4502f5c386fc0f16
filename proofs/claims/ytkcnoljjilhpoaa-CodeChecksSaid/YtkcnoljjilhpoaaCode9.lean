/- A check of code, by package code. -/
import Derived.Test.YtkcnoljjilhpoaaProg
import Derived.Test.YtkcnoljjilhpoaaCode5
import Derived.Test.YtkcnoljjilhpoaaCode8
import Derived.Test.YtkcnoljjilhpoaaCode4
namespace Go.Proofs.Ytkcnoljjilhpoaa
open Go.RowKit
set_option maxRecDepth 100000 in
set_option maxHeartbeats 8000000 in
theorem codeCheck_any (fl : Pce → Bool) (ps : List Pce) (nns : Nat) (A A' : Option Addr) (c c' B : Nat) (w : World) (hP : PcsR w B A ps) (hB : B ≤ w.heap.size) (hfl : ∀ p, IsFlow ps p.body (fl p)) (hps : ps.length ≤ maxLen) (hbl : ∀ p ∈ ps, p.body.length ≤ maxLen) :
    Calls Try.prog 13 #[codV A ps.length c A' nns c'] w fun e w' => e = .returned (.int .i64 (chkS fl ps nns)) ∧ Below w.heap.size w w' := by
  unfold maxLen at *
  by_cases h32 : 32 < ps.length
  · have HX := Lib.hid (chk_long (fl := fl) (nns := nns) h32)
    generalize chkS fl ps nns = X at *
    obtain rfl := HX.out
    have h32i : (32 : Int) < (ps.length : Int) := by omega
    unfold codV
    go_enter Try.func13, Try.ntmps13
    go_wp2_with fail
    go_ret
    exact ⟨rfl, (Below.refl _ _).alloc (Nat.le_refl _) _⟩
  have h32i : ¬ (32 : Int) < (ps.length : Int) := by omega
  have HBIG := Lib.hid (chk_big (fl := fl) (ps := ps) (nns := nns))
  have HBAD := Lib.hid (chk_bad (fl := fl) (nns := nns) h32)
  have HNO := Lib.hid (chk_no (fl := fl) (nns := nns) h32)
  have HOK := Lib.hid (chk_ok (fl := fl) (nns := nns) h32)
  generalize chkS fl ps nns = X at *
  have hF := fun p i Ab cb W hl hb => opfits_any ps.length nns p i A A' Ab c c' cb W hl hb (by omega)
  have hL := fun p Ab cb W hP hI hB2 hfew hfit hb => flows_any ps nns p A A' Ab c c' cb B W hP hI hB2 hfew hfit hb (by omega) (fl p) (hfl p)
  unfold codV pceV insV at hF
  unfold codV pceV at hL
  unfold codV
  clear hfl
  go_enter Try.func13, Try.ntmps13
  go_wp2_with fail
  go_loopw [18] (fun z wr => ∃ k : Nat, z = .int .i64 (k : Int) ∧ k ≤ ps.length ∧ (ps.drop k).any bigB = ps.any bigB ∧ Blk wr w.heap.size 25 #[.slice A ps.length c, .slice A' nns c'] ∧ Below w.heap.size w wr) (fun z _ => ps.length - (intOf z).toNat)
  case atStart => exact ⟨0, rfl, by omega, rfl, Blk.new _ _ _, (Below.refl _ _).alloc (Nat.le_refl _) _⟩
  case round =>
    obtain ⟨k, rfl, hk, he, hC, hb⟩ := hrel
    have hz := hb.size
    have hc0 := (hC.cell 0).trans (show _ = some (Value.slice A ps.length c) from rfl)
    have hc1 := (hC.cell 1).trans (show _ = some (Value.slice A' nns c') from rfl)
    have hcA := fun o => hC.cell_a 0 (Value.slice A ps.length c) rfl o
    by_cases hlt : k < ps.length
    · as_aux_lemma =>
      clear hF hL HBAD HNO HOK
      have hki : (k : Int) < (ps.length : Int) := by omega
      have hbp := hbl _ (List.getElem_mem hlt)
      have HB1 := Lib.hid (fun h => any_head hlt (bigB_true (p := (ps[k]'hlt)) h))
      have HS := Lib.hid (fun h => any_step hlt (bigB_false (p := (ps[k]'hlt)) h) he)
      obtain ⟨pb, off, Ab, cb, rfl, hbB, k0, k1, k2, k3, k4, hI⟩ := (hP.below (hb.mono hB)) k hlt
      clear he hP hI hbl
      generalize ps[k] = p at *
      obtain ⟨nm, opn, prm, loc, body⟩ := p
      simp only at k0 k1 k2 k3 k4 hbp HB1 HS
      have hnew : Blk (wr.alloc (.cells #[.string (bs nm), .bool opn, .int .i64 prm, .int .i64 loc, .slice Ab body.length cb] 128)) wr.heap.size 128 #[.string (bs nm), .bool opn, .int .i64 prm, .int .i64 loc, .slice Ab body.length cb] := Blk.new _ _ _
      by_cases a1 : body.length ≤ 2048
      · have d1 : decide ((2048 : Int) < (body.length : Int)) = false := decide_eq_false (by omega)
        by_cases a2 : loc ≤ 32
        · have d2 : decide ((32 : Int) < loc) = false := decide_eq_false (by omega)
          by_cases a3 : prm ≤ 8
          · have d3 : decide ((8 : Int) < prm) = false := decide_eq_false (by omega)
            go_wp2_with fail
            go_roundw
            case rel => exact ⟨k + 1, by go_num, by omega, HS.out ⟨a1, a2, a3⟩, hC.alloc _, hb.alloc hz _⟩
            case measure => simp [intOf]; omega
          · have d3 : decide ((8 : Int) < prm) = true := decide_eq_true (by omega)
            obtain rfl := HBIG.out (HB1.out (by omega))
            go_wp2_with fail
            go_ret
            exact ⟨rfl, hb.alloc hz _⟩
        · have d2 : decide ((32 : Int) < loc) = true := decide_eq_true (by omega)
          obtain rfl := HBIG.out (HB1.out (by omega))
          go_wp2_with fail
          go_ret
          exact ⟨rfl, hb.alloc hz _⟩
      · have d1 : decide ((2048 : Int) < (body.length : Int)) = true := decide_eq_true (by omega)
        obtain rfl := HBIG.out (HB1.out (by omega))
        go_wp2_with fail
        go_ret
        exact ⟨rfl, hb.alloc hz _⟩
    · as_aux_lemma =>
      have hki : ¬ (k : Int) < (ps.length : Int) := by omega
      have hbig := any_end (by omega) he
      have HBAD := Lib.hid (HBAD.out hbig)
      have HNO := Lib.hid (HNO.out hbig)
      have HOK := Lib.hid (HOK.out hbig)
      have HNB := Lib.hid (fun p (hp : p ∈ ps) => not_big hbig hp)
      have HFW := Lib.hid (fun h2 => few_of (nns := nns) hbig h2 h32)
      clear hbig he HBIG hlt hk
      obtain ⟨w0, rfl⟩ : ∃ w0 : World, w0 = wr := ⟨_, rfl⟩
      go_wp2_with fail
      go_loopw [40] (fun z wr => ∃ k : Nat, z = .int .i64 (k : Int) ∧ k ≤ ps.length ∧ (ps.drop k).any (badB ps.length nns) = ps.any (badB ps.length nns) ∧ Blk wr w.heap.size 25 #[.slice A ps.length c, .slice A' nns c'] ∧ Below w.heap.size w wr) (fun z _ => ps.length - (intOf z).toNat)
      case atStart => exact ⟨0, rfl, by omega, rfl, hC, hb⟩
      case round =>
        clear hc0 hc1 hcA hC hb hz hki
        obtain ⟨k, rfl, hk, he, hC, hb⟩ := hrel
        have hz := hb.size
        have hc0 := (hC.cell 0).trans (show _ = some (Value.slice A ps.length c) from rfl)
        have hc1 := (hC.cell 1).trans (show _ = some (Value.slice A' nns c') from rfl)
        have hcA := fun o => hC.cell_a 0 (Value.slice A ps.length c) rfl o
        by_cases hlt : k < ps.length
        · as_aux_lemma =>
          clear hL HNO HOK HFW
          have hki : (k : Int) < (ps.length : Int) := by omega
          obtain ⟨hbp, hlp, hpp⟩ := HNB.out _ (List.getElem_mem hlt)
          have HB1 := Lib.hid (fun h => HBAD.out (any_head hlt (badB_par (nns := nns) (nps := ps.length) (p := (ps[k]'hlt)) h)))
          have HB2 := Lib.hid (fun h => HBAD.out (any_head hlt (badB_body (nns := nns) (nps := ps.length) (p := (ps[k]'hlt)) h)))
          have HS := Lib.hid (fun h h2 => any_step hlt (badB_ok (nns := nns) (nps := ps.length) (p := (ps[k]'hlt)) h h2) he)
          have hFk := fun i Ab cb => hF (ps[k]'hlt) i Ab cb
          obtain ⟨pb, off, Ab, cb, rfl, hbB, k0, k1, k2, k3, k4, hI⟩ := (hP.below (hb.mono hB)) k hlt
          clear he hbl HBAD HNB hF
          generalize ps[k] = p at *
          obtain ⟨nm, opn, prm, loc, body⟩ := p
          simp only at k0 k1 k2 k3 k4 hbp hlp hpp HB1 HB2 HS hFk hI
          by_cases a1 : prm < 0
          · have d1 : decide (prm < 0) = true := decide_eq_true a1
            obtain rfl := HB1.out (.inl a1)
            clear HB2 HS hFk
            go_wp2_with fail
            go_ret
            exact ⟨rfl, hb.alloc hz _⟩
          have d1 : decide (prm < 0) = false := decide_eq_false a1
          by_cases a2 : loc < prm
          · have d2 : decide (loc < prm) = true := decide_eq_true a2
            obtain rfl := HB1.out (.inr a2)
            clear HB2 HS hFk
            go_wp2_with fail
            go_ret
            exact ⟨rfl, hb.alloc hz _⟩
          have d2 : decide (loc < prm) = false := decide_eq_false a2
          have HS := Lib.hid (HS.out (by omega))
          clear HB1
          go_wp2_with fail
          generalize hp2 : (⟨nm, opn, prm, loc, body⟩ : Pce) = p2 at HB2 HS hFk
          have hN : Blk (wr.alloc (.cells #[.string (bs nm), .bool opn, .int .i64 prm, .int .i64 loc, .slice Ab body.length cb] 128)) wr.heap.size 128 #[.string (bs nm), .bool opn, .int .i64 prm, .int .i64 loc, .slice Ab body.length cb] := Blk.new _ _ _
          have hz2 : w.heap.size < wr.heap.size := hC.lt
          have hC2 := hC.alloc (.cells #[.string (bs nm), .bool opn, .int .i64 prm, .int .i64 loc, .slice Ab body.length cb] 128)
          have hb2 := hb.alloc hz (.cells #[.string (bs nm), .bool opn, .int .i64 prm, .int .i64 loc, .slice Ab body.length cb] 128)
          have hI2 : InsR wr wr.heap.size Ab body := fun j hj => by
            obtain ⟨b', o', e1, e2, e3⟩ := hI j hj
            exact ⟨b', o', e1, by omega, e3⟩
          generalize hwg : wr.heap.size = g at *
          obtain ⟨w1, rfl⟩ : ∃ w1 : World, w1 = wr := ⟨_, rfl⟩
          go_loopw [57] (fun z wr => ∃ j : Nat, z = .int .i64 (j : Int) ∧ j ≤ body.length ∧ (body.drop j).all (fitS ps.length nns p2) = body.all (fitS ps.length nns p2) ∧ Blk wr w.heap.size 25 #[.slice (some ⟨pb, off, none⟩) ps.length c, .slice A' nns c'] ∧ Blk wr g 128 #[.string (bs nm), .bool opn, .int .i64 prm, .int .i64 loc, .slice Ab body.length cb] ∧ Below w.heap.size w wr ∧ Below g w1 wr) (fun z _ => body.length - (intOf z).toNat)
          case atStart => exact ⟨0, rfl, by omega, rfl, hC2, hN, hb2, (Below.refl _ _).alloc (by omega) _⟩
          case round =>
            clear hc0 hc1 hcA hC hb hz hki k0 k1 k2 k3 k4 d1 d2 hC2 hb2 hN
            obtain ⟨j, rfl, hj, hf, hC, hN, hb, hb1⟩ := hrel
            have hz := hb.size
            have hz1 := hb1.size
            have hgl := hN.lt
            have hc0 := (hC.cell 0).trans (show _ = some (Value.slice _ ps.length c) from rfl)
            have hc1 := (hC.cell 1).trans (show _ = some (Value.slice A' nns c') from rfl)
            have hcA := fun o => hC.cell_a 0 (Value.slice _ ps.length c) rfl o
            have hcB := fun o => hC.cell_a 1 (Value.slice A' nns c') rfl o
            have n0 := (hN.cell 0).trans (show _ = some (Value.string (bs nm)) from rfl)
            have n1 := (hN.cell 1).trans (show _ = some (Value.bool opn) from rfl)
            have n2 := (hN.cell 2).trans (show _ = some (Value.int .i64 prm) from rfl)
            have n3 := (hN.cell 3).trans (show _ = some (Value.int .i64 loc) from rfl)
            have n4 := (hN.cell 4).trans (show _ = some (Value.slice Ab body.length cb) from rfl)
            have nA0 := fun o => hN.cell_a 0 (Value.string (bs nm)) rfl o
            have nA1 := fun o => hN.cell_a 1 (Value.bool opn) rfl o
            have nA2 := fun o => hN.cell_a 2 (Value.int .i64 prm) rfl o
            have nA3 := fun o => hN.cell_a 3 (Value.int .i64 loc) rfl o
            have nA4 := fun o => hN.cell_a 4 (Value.slice Ab body.length cb) rfl o
            by_cases hlt2 : j < body.length
            · have hji : (j : Int) < (body.length : Int) := by omega
              have hcall := fun Ab cb W => hFk (body[j]'hlt2) Ab cb W ⟨by omega, hlp⟩ hbp
              have HBd := Lib.hid (fun h => HB2.out (all_head hlt2 h))
              have HSt := Lib.hid (fun h => all_step hlt2 h hf)
              generalize fitS ps.length nns p2 body[j] = q at hcall HBd HSt
              obtain ⟨ib, io, rfl, hib, i0, i1, i2⟩ := (hI2.below hb1) j hlt2
              clear hI2 hFk hP hf HB2 HS
              generalize body[j] = x at *
              obtain ⟨iop, ia, ibb⟩ := x
              simp only at hcall i0 i1 i2
              have hbq := hb.alloc hz (.cells #[.int .i64 iop, .int .i64 ia, .int .i64 ibb] 125)
              have hbq1 := hb1.alloc (by omega) (.cells #[.int .i64 iop, .int .i64 ia, .int .i64 ibb] 125)
              have hCq := hC.alloc (.cells #[.int .i64 iop, .int .i64 ia, .int .i64 ibb] 125)
              have hNq := hN.alloc (.cells #[.int .i64 iop, .int .i64 ia, .int .i64 ibb] 125)
              go_wp2_with fail
              with_reducible refine (hcall (some ⟨ib, io, none⟩) cb (wr.alloc (.cells #[.int .i64 iop, .int .i64 ia, .int .i64 ibb] 125))).mono ?_
              rintro e w2 ⟨rfl, hb2⟩
              cases q
              · obtain rfl := HBd.out rfl
                go_wp2_with fail
                go_ret
                exact ⟨rfl, hbq.trans (hb2.mono hbq.size)⟩
              · have hst := Lib.hid (HSt.out rfl)
                clear HBd HSt hcall
                go_wp2_with fail
                go_roundw
                case rel => exact ⟨j + 1, by go_num, by omega, hst.out, hCq.below hb2 hCq.lt, hNq.below hb2 hNq.lt, hbq.trans (hb2.mono hbq.size), hbq1.trans (hb2.mono (by have := hbq1.size; omega))⟩
                case measure => simp [intOf]; omega
            · have hji : ¬ (j : Int) < (body.length : Int) := by omega
              have hs := HS.out (all_end (by omega) hf)
              clear HB2 HS hFk hf hI2 hP
              go_wp2_with fail
              go_roundw
              case rel => exact ⟨k + 1, by go_num, by omega, hs, hC, hb⟩
              case measure => simp [intOf]; omega
        · as_aux_lemma =>
          have hki : ¬ (k : Int) < (ps.length : Int) := by omega
          have hbad := any_end (by omega) he
          have HOK := Lib.hid (HOK.out hbad)
          obtain ⟨hfew, hfit⟩ := HFW.out hbad
          have HFT := Lib.hid hfit
          clear hbad hfit he HBAD HNB HFW hF hlt hk
          obtain ⟨w1, rfl⟩ : ∃ w1 : World, w1 = wr := ⟨_, rfl⟩
          go_wp2_with fail
          go_loopw [71] (fun z wr => ∃ k : Nat, z = .int .i64 (k : Int) ∧ k ≤ ps.length ∧ (ps.drop k).all fl = ps.all fl ∧ Blk wr w.heap.size 25 #[.slice A ps.length c, .slice A' nns c'] ∧ Below w.heap.size w wr) (fun z _ => ps.length - (intOf z).toNat)
          case atStart => exact ⟨0, rfl, by omega, rfl, hC, hb⟩
          case round =>
            clear hc0 hc1 hcA hC hb hz hki
            obtain ⟨k, rfl, hk, he, hC, hb⟩ := hrel
            have hz := hb.size
            have hc0 := (hC.cell 0).trans (show _ = some (Value.slice A ps.length c) from rfl)
            have hc1 := (hC.cell 1).trans (show _ = some (Value.slice A' nns c') from rfl)
            have hcA := fun o => hC.cell_a 0 (Value.slice A ps.length c) rfl o
            have hcB := fun o => hC.cell_a 1 (Value.slice A' nns c') rfl o
            by_cases hlt : k < ps.length
            · have hki : (k : Int) < (ps.length : Int) := by omega
              obtain ⟨hfx, hb48, hlo, hl32⟩ := HFT.out _ (List.getElem_mem hlt)
              have hcall := fun Ab cb W h1 h2 h3 => hL (ps[k]'hlt) Ab cb W h1 h2 h3 hfew hfx hb48
              have HH := Lib.hid (fun h => HNO.out (all_head hlt h))
              have HS := Lib.hid (fun h => all_step hlt h he)
              have HEND := Lib.hid (Nat.le_refl 0)
              clear hfx HFT hL he
              have hPw := hP.below (hb.mono hB)
              obtain ⟨pb, off, Ab, cb, rfl, hbB, k0, k1, k2, k3, k4, hI⟩ := hPw k hlt
              generalize fl ps[k] = q at *
              generalize ps[k] = p at *
              obtain ⟨nm, opn, prm, loc, body⟩ := p
              simp only at k0 k1 k2 k3 k4 hcall hI hb48 hlo hl32
              have hN : Blk (wr.alloc (.cells #[.string (bs nm), .bool opn, .int .i64 prm, .int .i64 loc, .slice Ab body.length cb] 128)) wr.heap.size 128 #[.string (bs nm), .bool opn, .int .i64 prm, .int .i64 loc, .slice Ab body.length cb] := Blk.new _ _ _
              have hbq := hb.alloc hz (.cells #[.string (bs nm), .bool opn, .int .i64 prm, .int .i64 loc, .slice Ab body.length cb] 128)
              have hCq := hC.alloc (.cells #[.string (bs nm), .bool opn, .int .i64 prm, .int .i64 loc, .slice Ab body.length cb] 128)
              have hcl := hcall Ab cb (wr.alloc (.cells #[.string (bs nm), .bool opn, .int .i64 prm, .int .i64 loc, .slice Ab body.length cb] 128)) (hPw.below ((Below.refl B wr).alloc (by omega) _)) (hI.below ((Below.refl B wr).alloc (by omega) _)) (by simp; omega)
              clear hcall hPw hI hP
              go_wp2_with fail
              refine hcl.mono ?_
              rintro e w2 ⟨rfl, hb2⟩
              cases q
              · obtain rfl := HH.out rfl
                go_wp2_with fail
                go_ret
                exact ⟨rfl, hbq.trans (hb2.mono hbq.size)⟩
              · have hst := Lib.hid (HS.out rfl)
                clear HH HS hcl
                go_wp2_with fail
                go_roundw
                case rel => exact ⟨k + 1, by go_num, by omega, hst.out, hCq.below hb2 hCq.lt, hbq.trans (hb2.mono hbq.size)⟩
                case measure => simp [intOf]; omega
            · have hki : ¬ (k : Int) < (ps.length : Int) := by omega
              obtain rfl := HOK.out (all_end (by omega) he)
              clear HNO HFT hL he
              go_wp2_with fail
              go_ret
              exact ⟨rfl, hb⟩
end Go.Proofs.Ytkcnoljjilhpoaa
