/- Of the texts TySee. -/
import Derived.Test.YtgjbcahpgkchfaaG33
import Derived.Test.YtgjbcahpgkchfaaG34
import Derived.Test.YtgjbcahpgkchfaaG36
import Derived.Deep.QuietTactic
import Derived.BigQuiet
import Derived.Deep.RegionHeld3
set_option linter.unusedSimpArgs false
set_option linter.unusedVariables false
namespace Go.Proofs.Ytgjbcahpgkchfaa
open Go Go.RowKit Vc
set_option maxRecDepth 100000 in
set_option maxHeartbeats 2000000 in
theorem tidySees_walk (x : CodD) (w : World) (hx : x.held w w.heap.size) (hnn : x.ns.length ≤ 8796093022207) :
    Calls Try.prog 3 #[codV x.A x.ps.length x.c x.A' x.ns.length x.c'] w fun e w' => e = .returned (.bool true) ∧ Below w.heap.size w w' := by
  obtain ⟨ps, A, c, ns, A', c'⟩ := x
  obtain ⟨hP, hps, hbl, hS, hns, hsl⟩ := hx
  dsimp only at hP hps hbl hS hns hsl hnn
  dsimp only
  obtain ⟨ds, hC, hds⟩ := code_of hP
  have hdl : ds.length = ps.length := by rw [← hds, List.length_map]
  have h1 := fun W (hW : Below w.heap.size w W) => wide_any ps ns A A' c c' w.heap.size W (hP.below hW) (hS.below hW) hW.size hps hns hbl hsl
  have h2 := fun W (hW : Below w.heap.size w W) => tidy_any (c := c) (c' := c') (hC.on hW) (strs_on hS hW) (by omega) (fun d hd => (hbl d.p (by rw [← hds]; exact List.mem_map.2 ⟨d, hd, rfl⟩)).1) hnn
  have h3 := fun W (hW : Below w.heap.size w W) => rcodeCheck_any (flC ps) ps ns.length A A' c c' w.heap.size W (hP.below hW) hW.size (flC_ok ps) hps (fun p hp => (hbl p hp).1) hns
  unfold TidyE at h2
  rw [hds, hdl] at h2
  rw [show chkS (flC ps) ps ns.length = chkC ps ns.length from rfl] at h3
  have HT := Lib.hid (fun h => tidy_ok (ps := ps) (nns := ns.length) h)
  clear hP hS hbl hsl hC hds hdl hps hns
  unfold codV at h1 h2 h3
  unfold codV
  generalize hX : chkC ps ns.length = X at *
  have HX := Lib.hid hX
  clear hX
  have hc0 : Below w.heap.size w (w.alloc (.cells #[.slice A ps.length c, .slice A' ns.length c'] 25)) := (Below.refl _ _).alloc (Nat.le_refl _) _
  have H1 := Lib.hid h1
  have H2 := Lib.hid h2
  have H3 := Lib.hid h3
  clear h1 h2 h3
  have hX : Blk (w.alloc (.cells #[.slice A ps.length c, .slice A' ns.length c'] 25)) w.heap.size 25 #[.slice A ps.length c, .slice A' ns.length c'] := Blk.new _ _ _
  go_enter Try.func3, Try.ntmps3
  go_wp2_with fail
  with_reducible refine (H1.out _ hc0).mono ?_
  rintro e w1 ⟨b, rfl, hb1⟩
  have hX1 := hX.below hb1 hX.lt
  have k0 := hX1.c 0 rfl
  have k1 := hX1.c 1 rfl
  have hc1 := hc0.trans (hb1.mono hc0.size)
  clear hX
  cases b
  case true =>
    go_wp2_with fail
    go_ret
    exact ⟨rfl, hc1⟩
  go_wp2_with fail
  with_reducible refine (live_any w1).mono ?_
  rintro e w2 ⟨hb2, b, off, cl, A2, c2, q, cq, rfl, hq, hbl2⟩
  have hX2 := hX1.below hb2 hX1.lt
  have hc2 := hc1.trans (hb2.mono hc1.size)
  have k0 := fun o => hX2.cell_a 0 (Value.slice A ps.length c) rfl o
  have k1 := fun o => hX2.cell_a 1 (Value.slice A' ns.length c') rfl o
  have hc3 := fun o => hc2.alloc hc2.size o
  have hX3 := fun o => hX2.alloc o
  clear hX1
  go_wp2_with fail
  with_reducible refine (H3.out _ (hc3 _)).mono ?_
  rintro e w3 ⟨rfl, hb3⟩
  have hX4 := (hX3 _).below hb3 (hX3 _).lt
  have hc4 := (hc3 _).trans (hb3.mono (hc3 _).size)
  clear hX3 hX2 hc3 k0 k1 hq hbl2 hb2
  have k0 := hX4.c 0 rfl
  have k1 := hX4.c 1 rfl
  go_wp2_with fail
  with_reducible refine (H2.out _ hc4).mono ?_
  rintro e w4 ⟨hb4, hne, heq⟩
  have hc5 := hc4.trans (hb4.mono hc4.size)
  by_cases hX0 : X = 0
  case neg =>
    obtain rfl := hne hX0
    clear heq hne
    have d0 : (X == 0) = false := beq_eq_false_iff_ne.2 hX0
    go_wp2_with fail
    go_ret
    exact ⟨rfl, hc5.alloc hc5.size _⟩
  obtain ⟨B, d, B', d', es, rfl, hE, hem, hS⟩ := heq hX0
  obtain ⟨h32, hOk⟩ := HT.out hX0
  subst hX0
  clear hne heq
  have hel : es.length = ps.length := by have := congrArg List.length hem; simpa using this
  have hbod : ∀ x, x ∈ es → x.p.body.length ≤ 2048 := fun x hx => (hOk.piece x.p (by rw [← hem]; exact List.mem_map.2 ⟨x, hx, rfl⟩)).2.2.1
  have hmx : ∀ n : Nat, n ≤ 8796093022207 → n ≤ maxLen := fun n h => by unfold maxLen; omega
  have h6 : ∀ W, Below w4.heap.size w4 W → Calls Try.prog 5 #[.agg #[.slice B es.length d, .slice B' ns.length d']] W fun e w' => Below W.heap.size W w' ∧ ∃ F f F' f', ∃ fs : List PceD, e = .returned (.tuple #[.agg #[.slice F fs.length f, .slice F' ns.length f'], .int .i64 0]) ∧ CodeM w' F fs ∧ fs.map (·.p) = ps.map tidyP ∧ Strs w' w'.heap.size F' ns := fun W hW =>
    (tidy_any (c := d) (c' := d') (hE.on hW) (strs_on hS hW) (hmx _ (by omega)) (fun x hx => hmx _ (by have := hbod x hx; omega)) hnn).mono fun e w' h => ⟨h.1, by
      have := h.2.2 (by rw [hem]; exact hOk.chk)
      rw [hem, hOk.same] at this
      exact this⟩
  have h8 : ∀ W k (hk : k < es.length), Below w4.heap.size w4 W → Calls Try.prog 8 #[.agg #[.slice B es.length d, .slice B' ns.length d'], .agg #[.string (bs es[k].p.name), .bool es[k].p.opn, .int .i64 es[k].p.params, .int .i64 es[k].p.locals, .slice es[k].A es[k].p.body.length es[k].c]] W (HgtE es[k].p.body W) := fun W k hk hW => hgt_any (c := d) (c' := d') (A' := B') (nns := ns.length) (hE.on hW) hem hOk h32 (List.getElem_mem hk)
  have h9 : ∀ W k (hk : k < es.length), Below w4.heap.size w4 W → ∃ b off, B = some ⟨b, off, none⟩ ∧ W.cell? ⟨b, off + k * 5, none⟩ = some (.string (bs es[k].p.name)) ∧ W.cell? ⟨b, off + k * 5 + 1, none⟩ = some (.bool es[k].p.opn) ∧ W.cell? ⟨b, off + k * 5 + 2, none⟩ = some (.int .i64 es[k].p.params) ∧ W.cell? ⟨b, off + k * 5 + 3, none⟩ = some (.int .i64 es[k].p.locals) ∧ W.cell? ⟨b, off + k * 5 + 4, none⟩ = some (.slice es[k].A es[k].p.body.length es[k].c) := fun W k hk hW => by
    obtain ⟨b, off, e, _, hc⟩ := (hE.on hW).1.2 (by omega)
    refine ⟨b, off, e, ?_, ?_, ?_, ?_, ?_⟩
    · exact hc (k * 5 + 0) _ (by rw [flat5 es hk 0 (by omega)]; rfl)
    · exact hc (k * 5 + 1) _ (by rw [flat5 es hk 1 (by omega)]; rfl)
    · exact hc (k * 5 + 2) _ (by rw [flat5 es hk 2 (by omega)]; rfl)
    · exact hc (k * 5 + 3) _ (by rw [flat5 es hk 3 (by omega)]; rfl)
    · exact hc (k * 5 + 4) _ (by rw [flat5 es hk 4 (by omega)]; rfl)
  have H6 := Lib.hid h6
  have H8 := Lib.hid h8
  have H9 := Lib.hid h9
  have HEL := Lib.hid hel
  have HEM := Lib.hid hem
  clear h6 h8 h9 hel hem
  have hD := Blk.new w4 25 #[.slice B es.length d, .slice B' ns.length d']
  have hb5 := (Below.refl w4.heap.size w4).alloc (Nat.le_refl _) (.cells #[.slice B es.length d, .slice B' ns.length d'] 25)
  have k0 := hD.c 0 rfl
  have k1 := hD.c 1 rfl
  go_wp2_with fail
  with_reducible refine (H6.out _ hb5).mono ?_
  rintro e w5 ⟨hb6, F, f, F', f', fs, rfl, hFc, hfm, hFs⟩
  have hD5 := hD.below hb6 hD.lt
  have hb7 := hb5.trans (hb6.mono hb5.size)
  have hG := Blk.new w5 25 #[.slice F fs.length f, .slice F' ns.length f']
  have hD6 := hD5.alloc (.cells #[.slice F fs.length f, .slice F' ns.length f'] 25)
  have hb8 := (Below.refl w5.heap.size w5).alloc (Nat.le_refl _) (.cells #[.slice F fs.length f, .slice F' ns.length f'] 25)
  have hb9 := hb7.trans (hb8.mono hb7.size)
  have h7 := same_any (c := d) (c' := d') (d := f) (d' := f') (hE.on hb9) (strs_on hS hb9) (hFc.on hb8) (strs_on hFs hb8) (by rw [HEM.out, hfm]) hbod (hmx _ (by have := HEL.out; omega)) (hmx _ hnn)
  unfold codV at h7
  have H7 := Lib.hid h7
  clear h7 hD hb6 hD5
  have k0 := hD6.c 0 rfl
  have k1 := hD6.c 1 rfl
  have m0 := hG.c 0 rfl
  have m1 := hG.c 1 rfl
  go_wp2_with fail
  with_reducible refine H7.out.mono ?_
  rintro e w6 ⟨rfl, hb10⟩
  have hD7 := hD6.below hb10 hD6.lt
  have hb11 := hb9.trans (hb10.mono hb9.size)
  have hlast : Below w.heap.size w w6 := hc5.trans (hb11.mono hc5.size)
  clear k0 k1 m0 m1 hG hb8 hb7 hb5 hb10 hb9 hX4 hc4 hc0
  go_wp2_with fail
  go_loopw [11] (fun i wr => ∃ k : Nat, i = .int .i64 (k : Int) ∧ k ≤ es.length ∧ Blk wr w4.heap.size 25 #[.slice B es.length d, .slice B' ns.length d'] ∧ Below w4.heap.size w4 wr) (fun i _ => es.length - (intOf i).toNat)
  case atStart => exact ⟨0, rfl, Nat.zero_le _, hD7, hb11⟩
  case round =>
    obtain ⟨k, rfl, hk, hDk, hbk⟩ := hrel
    have k0 := hDk.c 0 rfl
    have k1 := hDk.c 1 rfl
    by_cases hlt : k < es.length
    · have hki : (k : Int) < (es.length : Int) := by omega
      have hk0 : (0 : Int) ≤ (k : Int) := by omega
      obtain ⟨bb, oo, rfl, q0, q1, q2, q3, q4⟩ := H9.out wr k hlt hbk
      have hmem := List.getElem_mem hlt
      have hes : es.length ≤ 32 := by have := HEL.out; omega
      go_upto_region 17 with fail
      go_cut [12] (fun v wc => ∃ (q : Nat) (hs : List Int), v = .slice (some ⟨q, 0, none⟩) hs.length hs.length ∧ Rd wc wc.heap.size 1 (some ⟨q, 0, none⟩) hs.length (intV hs) ∧ Plain es[k].p.body hs ∧ Below wr.heap.size wr wc)
      case first =>
        as_aux_lemma =>
        go_region_held3 (fun W => W.cell? ⟨w4.heap.size, 0, none⟩ = some (.slice (some ⟨bb, oo, none⟩) es.length d) ∧ W.cell? ⟨w4.heap.size, 1, none⟩ = some (.slice B' ns.length d') ∧ W.cell? ⟨bb, oo + k * 5, none⟩ = some (.string (bs es[k].p.name)) ∧ W.cell? ⟨bb, oo + k * 5 + 1, none⟩ = some (.bool es[k].p.opn) ∧ W.cell? ⟨bb, oo + k * 5 + 2, none⟩ = some (.int .i64 es[k].p.params) ∧ W.cell? ⟨bb, oo + k * 5 + 3, none⟩ = some (.int .i64 es[k].p.locals) ∧ W.cell? ⟨bb, oo + k * 5 + 4, none⟩ = some (.slice es[k].A es[k].p.body.length es[k].c)) (go_keep) (first
          | (go_at_call 8; refine (H8.out _ k hlt (by first | exact hbk.drewN _ | exact hbk.drew | exact hbk)).mono ?_; rintro e w7 ⟨hb7, q, hs, rfl, hR, hPl⟩
             have hbw := (Below.refl wr.heap.size wr).drew.trans hb7
             have hDw := hDk.below hbw hDk.lt
             have z0 := hDw.c 0 rfl
             have z1 := hDw.c 1 rfl
             obtain ⟨b3, o3, e3, z2, z3, z4, z5, z6⟩ := H9.out w7 k hlt (hbk.trans (hbw.mono hbk.size))
             injection e3 with e3
             injection e3 with e4 e5
             subst e4; subst e5))
        all_goals
          go_wp2_with fail
          go_meet
          exact ⟨q, hs, rfl, hR, hPl, (Below.refl wr.heap.size wr).drew.trans hb7⟩
      case rest =>
        obtain ⟨q, hs, rfl, hR, hPl, hbc⟩ := hcut
        have hD8 := hDk.below hbc hDk.lt
        have hbk2 := hbk.trans (hbc.mono hbk.size)
        obtain ⟨bb2, oo2, e2, _, _, _, _, r4⟩ := H9.out _ k hlt hbk2
        injection e2 with e2
        injection e2 with e3 e4
        subst e3; subst e4
        have k0 := hD8.c 0 rfl
        have k1 := hD8.c 1 rfl
        have h9 := plain_any (c := es[k].c) (c' := hs.length) ((hE.on hbk2).2 _ hmem) hR hPl
        have H10 := Lib.hid h9
        clear h9
        go_wp2_with fail
        with_reducible refine H10.out.mono ?_
        rintro e w8 ⟨rfl, hb8⟩
        have hD9 := hD8.below hb8 hD8.lt
        have hbk3 := hbk2.trans (hb8.mono hbk2.size)
        go_wp2_with fail
        go_roundw
        case rel => exact ⟨k + 1, by go_num, by omega, hD9, hbk3⟩
        case measure => simp [intOf]; omega
    · have hki : ¬ (k : Int) < (es.length : Int) := by omega
      go_wp2_with fail
      go_ret
      exact ⟨rfl, hc5.trans (hbk.mono hc5.size)⟩
end Go.Proofs.Ytgjbcahpgkchfaa
