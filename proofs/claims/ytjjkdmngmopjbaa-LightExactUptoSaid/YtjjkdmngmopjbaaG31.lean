/- Of the texts Li3. -/
import Derived.Test.YtjjkdmngmopjbaaProg
import Derived.Test.YtjjkdmngmopjbaaG30
set_option linter.unusedSimpArgs false
set_option linter.unusedVariables false
namespace Go.Proofs.Ytjjkdmngmopjbaa
open Go.RowKit
theorem own_zero (w : World) (e : TypeId) : (w.alloc (.cells #[] e)).ownsRow w.heap.size e 2 (.slice (some ⟨w.heap.size, 0, none⟩) 0 0) 0 [] :=
  ⟨rfl, .inr ⟨w.heap.size, 0, #[], rfl, Nat.le_refl _, Blk.new w e #[], Nat.le_refl _, Nat.zero_le _, rfl, rfl⟩⟩
set_option maxRecDepth 100000 in
set_option maxHeartbeats 4000000 in
theorem raccept_any (vc vw ve vh vs : Int) (vl : List Seat) (vA : Option Addr) (vk : Nat) (hc hh hp ht hg hs hr hb ho : Int) (ch cr cs : Int) (chas : Bool) (cb : Int) (fl : List Int) (fA : Option Addr) (fk : Nat) (sl : List Seat) (sA : Option Addr) (sk : Nat) (B : Nat) (w : World)
    (hv : ViewD.ok ⟨vc, vw, ve, vh, vs, vl, vA, vk⟩) (hvl : SeatsL w B vA vl) (hh0 : HeaderD.ok ⟨hc, hh, hp, ht, hg, hs, hr, hb, ho⟩) (hc0 : CertD.held w B ⟨ch, cr, cs, chas, cb, fl, fA, fk⟩) (hsl : SeatsL w B sA sl) (hB : B ≤ w.heap.size) (hvn : vl.length ≤ 65536) (hsn : sl.length ≤ 65536) (hcm : certM ⟨ch, cr, cs, chas, cb, fl, fA, fk⟩ ≤ 10000000) :
    Calls Try.prog 38 #[.agg #[.int .i64 vc, .int .i64 vw, .int .i64 ve, .int .i64 vh, .int .u64 vs, .slice vA vl.length vk], .agg #[.int .i64 hc, .int .i64 hh, .int .u64 hp, .int .u64 ht, .int .u64 hg, .int .u64 hs, .int .u64 hr, .int .u64 hb, .int .i64 ho, .int .i64 ch, .int .i64 cr, .int .i64 cs, .bool chas, .int .u64 cb, .slice fA fl.length fk, .slice sA sl.length sk]] w (AccP (accE ⟨vc, vw, ve, vh, vs, vl, vA, vk⟩ ⟨hc, hh, hp, ht, hg, hs, hr, hb, ho⟩ ⟨ch, cr, cs, chas, cb, fl, fA, fk⟩ sl) vc vw ve hh hs sl w) := by
  have hP1 : ∀ W, SeatsL W B vA vl → B ≤ W.heap.size → Calls _ _ #[.agg #[.int .i64 vc, .int .i64 vw, .int .i64 ve, .int .i64 vh, .int .u64 vs, .slice vA vl.length vk]] W _ := fun W h hb => rput_view ⟨vc, vw, ve, vh, vs, vl, vA, vk⟩ hv B W h hb hvn
  have hP2 : ∀ W, Seats W B vA vl → B ≤ W.heap.size → Calls _ _ _ W _ := fun W h hb => rfits_any vl vA vk B W h hb (by unfold maxLen; omega)
  have hP3 : ∀ W, Calls _ _ #[.agg #[.int .i64 hc, .int .i64 hh, .int .u64 hp, .int .u64 ht, .int .u64 hg, .int .u64 hs, .int .u64 hr, .int .u64 hb, .int .i64 ho]] W _ := fun W => rput_header ⟨hc, hh, hp, ht, hg, hs, hr, hb, ho⟩ hh0 W
  have hP4 : ∀ W, CertD.held W B ⟨ch, cr, cs, chas, cb, fl, fA, fk⟩ → B ≤ W.heap.size → Calls _ _ #[.agg #[.int .i64 ch, .int .i64 cr, .int .i64 cs, .bool chas, .int .u64 cb, .slice fA fl.length fk]] W _ := fun W h hb => rput_cert ⟨ch, cr, cs, chas, cb, fl, fA, fk⟩ B W h hb hcm
  have hP5 : ∀ W, SeatsL W B sA sl → B ≤ W.heap.size → Calls _ _ _ W _ := fun W h hb => rput_bench sl sA sk B W h hb hsn
  have hP6 : ∀ W, Seats W B sA sl → B ≤ W.heap.size → Calls _ _ _ W _ := fun W h hb => rfits_any sl sA sk B W h hb (by unfold maxLen; omega)
  have hP7 : ∀ W, Calls _ _ #[_, .agg #[.int .i64 hc, .int .i64 hh, .int .u64 hp, .int .u64 ht, .int .u64 hg, .int .u64 hs, .int .u64 hr, .int .u64 hb, .int .i64 ho]] W _ := fun W => rname_any vw ⟨hc, hh, hp, ht, hg, hs, hr, hb, ho⟩ hh0 W
  have hP8 : ∀ W, Seats W B vA vl → CertD.held W B ⟨ch, cr, cs, chas, cb, fl, fA, fk⟩ → B ≤ W.heap.size → Calls _ _ #[_, .agg #[.int .i64 ch, .int .i64 cr, .int .i64 cs, .bool chas, .int .u64 cb, .slice fA fl.length fk]] W _ := fun W h h' hb => rcheck_any vl vA vk B ⟨ch, cr, cs, chas, cb, fl, fA, fk⟩ W h h' hb (by unfold maxLen; omega) hcm
  have hP9 := fun W h hb => rbdigest_any vw sl sA sk B W h hb hsn
  change ∀ W, SeatsL W B vA vl → B ≤ W.heap.size → Calls _ _ _ _ (fun e w' => e = .returned (.tuple #[_, .int .i64 (evS ⟨vc, vw, ve, vh, vs, vl, vA, vk⟩)]) ∧ _) at hP1
  change ∀ W, Calls _ _ _ _ (fun e w' => e = .returned (.tuple #[_, .int .i64 (ehS ⟨hc, hh, hp, ht, hg, hs, hr, hb, ho⟩)]) ∧ _) at hP3
  change ∀ W, CertD.held W B ⟨ch, cr, cs, chas, cb, fl, fA, fk⟩ → B ≤ W.heap.size → Calls _ _ _ _ (fun e w' => e = .returned (.tuple #[_, .int .i64 (ecS ⟨ch, cr, cs, chas, cb, fl, fA, fk⟩)]) ∧ _) at hP4
  change ∀ W, SeatsL W B sA sl → B ≤ W.heap.size → Calls _ _ _ _ (fun e w' => e = .returned (.tuple #[_, .int .i64 (ebS sl)]) ∧ _) at hP5
  obtain ⟨E, hE⟩ : ∃ E, E = accE ⟨vc, vw, ve, vh, vs, vl, vA, vk⟩ ⟨hc, hh, hp, ht, hg, hs, hr, hb, ho⟩ ⟨ch, cr, cs, chas, cb, fl, fA, fk⟩ sl := ⟨_, rfl⟩
  rw [← hE]
  have HE := Lib.hid hE
  clear hE
  unfold accE at HE
  simp only at HE
  have hbd1 := Lib.hid (fun h : evS ⟨vc, vw, ve, vh, vs, vl, vA, vk⟩ = 0 => view_zero h)
  have hbd2 := Lib.hid (fun h : ehS ⟨hc, hh, hp, ht, hg, hs, hr, hb, ho⟩ = 0 => header_zero h)
  have hbd3 := Lib.hid (fun h : fits sl = true => fits_short h)
  generalize evS ⟨vc, vw, ve, vh, vs, vl, vA, vk⟩ = ev at *
  generalize ehS ⟨hc, hh, hp, ht, hg, hs, hr, hb, ho⟩ = eh at *
  generalize ecS ⟨ch, cr, cs, chas, cb, fl, fA, fk⟩ = ec at *
  generalize ebS sl = eb at *
  generalize fits vl = f1 at *
  generalize fits sl = f2 at *
  generalize nameS vw ⟨hc, hh, hp, ht, hg, hs, hr, hb, ho⟩ = N at *
  generalize checkS vl ⟨ch, cr, cs, chas, cb, fl, fA, fk⟩ = K at *
  generalize benchS vw sl = Dg at *
  generalize (Out.empty.view ⟨vc, vw, ve, vh, vs, vl, vA, vk⟩).rs = r1 at *
  generalize (Out.empty.header ⟨hc, hh, hp, ht, hg, hs, hr, hb, ho⟩).rs = r2 at *
  generalize (Out.empty.cert ⟨ch, cr, cs, chas, cb, fl, fA, fk⟩).rs = r3 at *
  generalize (Out.empty.bench sl).rs = r4 at *
  have hX : Blk (((w.alloc (.cells #[.int .i64 vc, .int .i64 vw, .int .i64 ve, .int .i64 vh, .int .u64 vs, .slice vA vl.length vk] 82)).alloc (.cells #[.int .i64 hc, .int .i64 hh, .int .u64 hp, .int .u64 ht, .int .u64 hg, .int .u64 hs, .int .u64 hr, .int .u64 hb, .int .i64 ho, .int .i64 ch, .int .i64 cr, .int .i64 cs, .bool chas, .int .u64 cb, .slice fA fl.length fk, .slice sA sl.length sk] 85)).alloc (.cells #[.int .i64 0, .int .i64 0, .int .i64 0, .int .i64 0, .int .u64 0, .slice none 0 0] 82)) w.heap.size 82 #[.int .i64 vc, .int .i64 vw, .int .i64 ve, .int .i64 vh, .int .u64 vs, .slice vA vl.length vk] := ((Blk.new w 82 #[.int .i64 vc, .int .i64 vw, .int .i64 ve, .int .i64 vh, .int .u64 vs, .slice vA vl.length vk]).alloc _).alloc _
  have hY : Blk (((w.alloc (.cells #[.int .i64 vc, .int .i64 vw, .int .i64 ve, .int .i64 vh, .int .u64 vs, .slice vA vl.length vk] 82)).alloc (.cells #[.int .i64 hc, .int .i64 hh, .int .u64 hp, .int .u64 ht, .int .u64 hg, .int .u64 hs, .int .u64 hr, .int .u64 hb, .int .i64 ho, .int .i64 ch, .int .i64 cr, .int .i64 cs, .bool chas, .int .u64 cb, .slice fA fl.length fk, .slice sA sl.length sk] 85)).alloc (.cells #[.int .i64 0, .int .i64 0, .int .i64 0, .int .i64 0, .int .u64 0, .slice none 0 0] 82)) (w.heap.size + 1) 85 #[.int .i64 hc, .int .i64 hh, .int .u64 hp, .int .u64 ht, .int .u64 hg, .int .u64 hs, .int .u64 hr, .int .u64 hb, .int .i64 ho, .int .i64 ch, .int .i64 cr, .int .i64 cs, .bool chas, .int .u64 cb, .slice fA fl.length fk, .slice sA sl.length sk] := by
    have := (Blk.new (w.alloc (.cells #[.int .i64 vc, .int .i64 vw, .int .i64 ve, .int .i64 vh, .int .u64 vs, .slice vA vl.length vk] 82)) 85 #[.int .i64 hc, .int .i64 hh, .int .u64 hp, .int .u64 ht, .int .u64 hg, .int .u64 hs, .int .u64 hr, .int .u64 hb, .int .i64 ho, .int .i64 ch, .int .i64 cr, .int .i64 cs, .bool chas, .int .u64 cb, .slice fA fl.length fk, .slice sA sl.length sk]).alloc (.cells #[.int .i64 0, .int .i64 0, .int .i64 0, .int .i64 0, .int .u64 0, .slice none 0 0] 82)
    simpa using this
  have hR : Blk (((w.alloc (.cells #[.int .i64 vc, .int .i64 vw, .int .i64 ve, .int .i64 vh, .int .u64 vs, .slice vA vl.length vk] 82)).alloc (.cells #[.int .i64 hc, .int .i64 hh, .int .u64 hp, .int .u64 ht, .int .u64 hg, .int .u64 hs, .int .u64 hr, .int .u64 hb, .int .i64 ho, .int .i64 ch, .int .i64 cr, .int .i64 cs, .bool chas, .int .u64 cb, .slice fA fl.length fk, .slice sA sl.length sk] 85)).alloc (.cells #[.int .i64 0, .int .i64 0, .int .i64 0, .int .i64 0, .int .u64 0, .slice none 0 0] 82)) (w.heap.size + 2) 82 #[.int .i64 0, .int .i64 0, .int .i64 0, .int .i64 0, .int .u64 0, .slice none 0 0] := by
    have := Blk.new ((w.alloc (.cells #[.int .i64 vc, .int .i64 vw, .int .i64 ve, .int .i64 vh, .int .u64 vs, .slice vA vl.length vk] 82)).alloc (.cells #[.int .i64 hc, .int .i64 hh, .int .u64 hp, .int .u64 ht, .int .u64 hg, .int .u64 hs, .int .u64 hr, .int .u64 hb, .int .i64 ho, .int .i64 ch, .int .i64 cr, .int .i64 cs, .bool chas, .int .u64 cb, .slice fA fl.length fk, .slice sA sl.length sk] 85)) 82 #[.int .i64 0, .int .i64 0, .int .i64 0, .int .i64 0, .int .u64 0, .slice none 0 0]
    simpa using this
  have hB0 : Below w.heap.size w (((w.alloc (.cells #[.int .i64 vc, .int .i64 vw, .int .i64 ve, .int .i64 vh, .int .u64 vs, .slice vA vl.length vk] 82)).alloc (.cells #[.int .i64 hc, .int .i64 hh, .int .u64 hp, .int .u64 ht, .int .u64 hg, .int .u64 hs, .int .u64 hr, .int .u64 hb, .int .i64 ho, .int .i64 ch, .int .i64 cr, .int .i64 cs, .bool chas, .int .u64 cb, .slice fA fl.length fk, .slice sA sl.length sk] 85)).alloc (.cells #[.int .i64 0, .int .i64 0, .int .i64 0, .int .i64 0, .int .u64 0, .slice none 0 0] 82)) := (((Below.refl _ _).alloc (Nat.le_refl _) _).alloc (by simp) _).alloc (by simp; omega) _
  go_enter Try.func38, Try.ntmps38
  go_upto_region 1 with fail
  generalize (((w.alloc (.cells #[.int .i64 vc, .int .i64 vw, .int .i64 ve, .int .i64 vh, .int .u64 vs, .slice vA vl.length vk] 82)).alloc (.cells #[.int .i64 hc, .int .i64 hh, .int .u64 hp, .int .u64 ht, .int .u64 hg, .int .u64 hs, .int .u64 hr, .int .u64 hb, .int .i64 ho, .int .i64 ch, .int .i64 cr, .int .i64 cs, .bool chas, .int .u64 cb, .slice fA fl.length fk, .slice sA sl.length sk] 85)).alloc (.cells #[.int .i64 0, .int .i64 0, .int .i64 0, .int .i64 0, .int .u64 0, .slice none 0 0] 82)) = w0 at *
  have x0 := (hX.cell 0).trans (show _ = some (Value.int .i64 vc) from rfl)
  have x1 := (hX.cell 1).trans (show _ = some (Value.int .i64 vw) from rfl)
  have x2 := (hX.cell 2).trans (show _ = some (Value.int .i64 ve) from rfl)
  have x3 := (hX.cell 3).trans (show _ = some (Value.int .i64 vh) from rfl)
  have x4 := (hX.cell 4).trans (show _ = some (Value.int .u64 vs) from rfl)
  have x5 := (hX.cell 5).trans (show _ = some (Value.slice vA vl.length vk) from rfl)
  go_wp2_with fail
  refine (hP1 _ (Rd.below hvl (hB0.mono hB)) (by have := hB0.size; omega)).mono ?_
  rintro e wq ⟨rfl, hq⟩
  clear x0 x1 x2 x3 x4 x5 hP1
  replace hX := hX.below hq hX.lt
  replace hY := hY.below hq hY.lt
  replace hR := hR.below hq hR.lt
  replace hB0 := hB0.trans (hq.mono hB0.size)
  clear hq
  have x5 := (hX.cell 5).trans (show _ = some (Value.slice vA vl.length vk) from rfl)
  go_wp2_with fail
  refine (hP2 _ (Rd.below hvl (hB0.mono hB)) (by have := hB0.size; omega)).mono ?_
  rintro e wq ⟨rfl, hq⟩
  clear x5 hP2
  replace hX := hX.below hq hX.lt
  replace hY := hY.below hq hY.lt
  replace hR := hR.below hq hR.lt
  replace hB0 := hB0.trans (hq.mono hB0.size)
  clear hq
  by_cases hev : ev = 0
  · have b0 := bne_no hev
    cases f1 with
    | false =>
      obtain rfl : E = 2 := by rw [HE.out]; (try rw [b2]); simp [accB, mayS, hev]
      have HR := Lib.hid ((((((hR.set_ 0 (.int .i64 0)).set_ 1 (.int .i64 0)).set_ 2 (.int .i64 0)).set_ 3 (.int .i64 0)).set_ 4 (.int .u64 0)).set_ 5 (.slice none 0 0))
      have f := hR.frozen
      have a0 := (hR.cell 0).trans (show _ = some (Value.int .i64 0) from rfl)
      have a1 := (hR.cell 1).trans (show _ = some (Value.int .i64 0) from rfl)
      have a2 := (hR.cell 2).trans (show _ = some (Value.int .i64 0) from rfl)
      have a3 := (hR.cell 3).trans (show _ = some (Value.int .i64 0) from rfl)
      have a4 := (hR.cell 4).trans (show _ = some (Value.int .u64 0) from rfl)
      have a5 := (hR.cell 5).trans (show _ = some (Value.slice none 0 0) from rfl)
      go_wp2_with fail
      have hRR := HR.out
      have z0 := (hRR.cell 0).trans (show _ = some (Value.int .i64 0) from rfl)
      have z1 := (hRR.cell 1).trans (show _ = some (Value.int .i64 0) from rfl)
      have z2 := (hRR.cell 2).trans (show _ = some (Value.int .i64 0) from rfl)
      have z3 := (hRR.cell 3).trans (show _ = some (Value.int .i64 0) from rfl)
      have z4 := (hRR.cell 4).trans (show _ = some (Value.int .u64 0) from rfl)
      have z5 := (hRR.cell 5).trans (show _ = some (Value.slice none 0 0) from rfl)
      refine bodyPost_ret (v := .tuple #[.agg #[.int .i64 0, .int .i64 0, .int .i64 0, .int .i64 0, .int .u64 0, .slice none 0 0], .int .i64 2]) (by simp [results, Try.results38, go_sem, z0, z1, z2, z3, z4, z5]) rfl (accP_no (by first | decide | assumption) ?_)
      repeat (first | with_reducible refine Below.setCell ?_ (by dsimp only; omega) _ | with_reducible refine Below.drew ?_)
      exact hB0
    | true =>
      have y0 := (hY.cell 0).trans (show _ = some (Value.int .i64 hc) from rfl)
      have y1 := (hY.cell 1).trans (show _ = some (Value.int .i64 hh) from rfl)
      have y2 := (hY.cell 2).trans (show _ = some (Value.int .u64 hp) from rfl)
      have y3 := (hY.cell 3).trans (show _ = some (Value.int .u64 ht) from rfl)
      have y4 := (hY.cell 4).trans (show _ = some (Value.int .u64 hg) from rfl)
      have y5 := (hY.cell 5).trans (show _ = some (Value.int .u64 hs) from rfl)
      have y6 := (hY.cell 6).trans (show _ = some (Value.int .u64 hr) from rfl)
      have y7 := (hY.cell 7).trans (show _ = some (Value.int .u64 hb) from rfl)
      have y8 := (hY.cell 8).trans (show _ = some (Value.int .i64 ho) from rfl)
      go_upto_region 6 with fail
      have hH : Blk (wq.alloc (.cells #[.int .i64 hc, .int .i64 hh, .int .u64 hp, .int .u64 ht, .int .u64 hg, .int .u64 hs, .int .u64 hr, .int .u64 hb, .int .i64 ho] 27)) wq.heap.size 27 #[.int .i64 hc, .int .i64 hh, .int .u64 hp, .int .u64 ht, .int .u64 hg, .int .u64 hs, .int .u64 hr, .int .u64 hb, .int .i64 ho] := Blk.new _ _ _
      have hq := (Below.refl wq.heap.size wq).alloc (Nat.le_refl _) (.cells #[.int .i64 hc, .int .i64 hh, .int .u64 hp, .int .u64 ht, .int .u64 hg, .int .u64 hs, .int .u64 hr, .int .u64 hb, .int .i64 ho] 27)
      have hG : w.heap.size + 2 < wq.heap.size := hR.lt
      clear y0 y1 y2 y3 y4 y5 y6 y7 y8
      replace hX := hX.below hq hX.lt
      replace hY := hY.below hq hY.lt
      replace hR := hR.below hq hR.lt
      replace hB0 := hB0.trans (hq.mono hB0.size)
      clear hq
      generalize wq.alloc (.cells #[.int .i64 hc, .int .i64 hh, .int .u64 hp, .int .u64 ht, .int .u64 hg, .int .u64 hs, .int .u64 hr, .int .u64 hb, .int .i64 ho] 27) = w1 at *
      generalize wq.heap.size = G at *
      clear wq
      have g0 := (hH.cell 0).trans (show _ = some (Value.int .i64 hc) from rfl)
      have g1 := (hH.cell 1).trans (show _ = some (Value.int .i64 hh) from rfl)
      have g2 := (hH.cell 2).trans (show _ = some (Value.int .u64 hp) from rfl)
      have g3 := (hH.cell 3).trans (show _ = some (Value.int .u64 ht) from rfl)
      have g4 := (hH.cell 4).trans (show _ = some (Value.int .u64 hg) from rfl)
      have g5 := (hH.cell 5).trans (show _ = some (Value.int .u64 hs) from rfl)
      have g6 := (hH.cell 6).trans (show _ = some (Value.int .u64 hr) from rfl)
      have g7 := (hH.cell 7).trans (show _ = some (Value.int .u64 hb) from rfl)
      have g8 := (hH.cell 8).trans (show _ = some (Value.int .i64 ho) from rfl)
      go_wp2_with fail
      refine (hP3 _).mono ?_
      rintro e wq ⟨rfl, hq⟩
      clear g0 g1 g2 g3 g4 g5 g6 g7 g8 hP3
      replace hX := hX.below hq hX.lt
      replace hY := hY.below hq hY.lt
      replace hR := hR.below hq hR.lt
      replace hH := hH.below hq hH.lt
      replace hB0 := hB0.trans (hq.mono hB0.size)
      clear hq
      by_cases heh : eh = 0
      · have beh := bne_no heh
        have y9 := (hY.cell 9).trans (show _ = some (Value.int .i64 ch) from rfl)
        have y10 := (hY.cell 10).trans (show _ = some (Value.int .i64 cr) from rfl)
        have y11 := (hY.cell 11).trans (show _ = some (Value.int .i64 cs) from rfl)
        have y12 := (hY.cell 12).trans (show _ = some (Value.bool chas) from rfl)
        have y13 := (hY.cell 13).trans (show _ = some (Value.int .u64 cb) from rfl)
        have y14 := (hY.cell 14).trans (show _ = some (Value.slice fA fl.length fk) from rfl)
        go_wp2_with fail
        refine (hP4 _ (hc0.below (hB0.mono hB)) (by have := hB0.size; omega)).mono ?_
        rintro e wq ⟨rfl, hq⟩
        clear y9 y10 y11 y12 y13 y14 hP4
        replace hX := hX.below hq hX.lt
        replace hY := hY.below hq hY.lt
        replace hR := hR.below hq hR.lt
        replace hH := hH.below hq hH.lt
        replace hB0 := hB0.trans (hq.mono hB0.size)
        clear hq
        by_cases hec : ec = 0
        · have bec := bne_no hec
          have y15 := (hY.cell 15).trans (show _ = some (Value.slice sA sl.length sk) from rfl)
          go_wp2_with fail
          refine (hP5 _ (Rd.below hsl (hB0.mono hB)) (by have := hB0.size; omega)).mono ?_
          rintro e wq ⟨rfl, hq⟩
          clear y15 hP5
          replace hX := hX.below hq hX.lt
          replace hY := hY.below hq hY.lt
          replace hR := hR.below hq hR.lt
          replace hH := hH.below hq hH.lt
          replace hB0 := hB0.trans (hq.mono hB0.size)
          clear hq
          by_cases heb : eb = 0
          · have beb := bne_no heb
            have y15 := (hY.cell 15).trans (show _ = some (Value.slice sA sl.length sk) from rfl)
            go_wp2_with fail
            refine (hP6 _ (Rd.below hsl (hB0.mono hB)) (by have := hB0.size; omega)).mono ?_
            rintro e wq ⟨rfl, hq⟩
            clear y15 hP6
            replace hX := hX.below hq hX.lt
            replace hY := hY.below hq hY.lt
            replace hR := hR.below hq hR.lt
            replace hH := hH.below hq hH.lt
            replace hB0 := hB0.trans (hq.mono hB0.size)
            clear hq
            cases f2 with
            | false =>
              obtain rfl : E = 2 := by rw [HE.out]; (try rw [b2]); simp [accB, mayS, hev, heh, hec, heb]
              have HR := Lib.hid ((((((hR.set_ 0 (.int .i64 0)).set_ 1 (.int .i64 0)).set_ 2 (.int .i64 0)).set_ 3 (.int .i64 0)).set_ 4 (.int .u64 0)).set_ 5 (.slice none 0 0))
              have f := hR.frozen
              have a0 := (hR.cell 0).trans (show _ = some (Value.int .i64 0) from rfl)
              have a1 := (hR.cell 1).trans (show _ = some (Value.int .i64 0) from rfl)
              have a2 := (hR.cell 2).trans (show _ = some (Value.int .i64 0) from rfl)
              have a3 := (hR.cell 3).trans (show _ = some (Value.int .i64 0) from rfl)
              have a4 := (hR.cell 4).trans (show _ = some (Value.int .u64 0) from rfl)
              have a5 := (hR.cell 5).trans (show _ = some (Value.slice none 0 0) from rfl)
              go_wp2_with fail
              have hRR := HR.out
              have z0 := (hRR.cell 0).trans (show _ = some (Value.int .i64 0) from rfl)
              have z1 := (hRR.cell 1).trans (show _ = some (Value.int .i64 0) from rfl)
              have z2 := (hRR.cell 2).trans (show _ = some (Value.int .i64 0) from rfl)
              have z3 := (hRR.cell 3).trans (show _ = some (Value.int .i64 0) from rfl)
              have z4 := (hRR.cell 4).trans (show _ = some (Value.int .u64 0) from rfl)
              have z5 := (hRR.cell 5).trans (show _ = some (Value.slice none 0 0) from rfl)
              refine bodyPost_ret (v := .tuple #[.agg #[.int .i64 0, .int .i64 0, .int .i64 0, .int .i64 0, .int .u64 0, .slice none 0 0], .int .i64 2]) (by simp [results, Try.results38, go_sem, z0, z1, z2, z3, z4, z5]) rfl (accP_no (by first | decide | assumption) ?_)
              repeat (first | with_reducible refine Below.setCell ?_ (by dsimp only; omega) _ | with_reducible refine Below.drew ?_)
              exact hB0
            | true =>
              obtain ⟨⟨v1, v2⟩, v3, v4⟩ := hbd1.out hev
              obtain ⟨h1, h2⟩ := hbd2.out heh
              obtain ⟨n1, n2⟩ := hbd3.out rfl
              clear hbd1 hbd2 hbd3
              have x0 := (hX.cell 0).trans (show _ = some (Value.int .i64 vc) from rfl)
              have x2 := (hX.cell 2).trans (show _ = some (Value.int .i64 ve) from rfl)
              have x3 := (hX.cell 3).trans (show _ = some (Value.int .i64 vh) from rfl)
              have g0 := (hH.cell 0).trans (show _ = some (Value.int .i64 hc) from rfl)
              have g1 := (hH.cell 1).trans (show _ = some (Value.int .i64 hh) from rfl)
              by_cases hc1 : hc = vc
              · have b1 := bne_no hc1
                clear hc1
                by_cases hc2 : hh ≤ vh
                · have b2 : decide (hh ≤ vh) = true := decide_eq_true hc2
                  obtain rfl : E = 19 := by rw [HE.out]; (try rw [b2]); simp [accB, mayS, hev, heh, hec, heb, b1, hc2]
                  have HR := Lib.hid ((((((hR.set_ 0 (.int .i64 0)).set_ 1 (.int .i64 0)).set_ 2 (.int .i64 0)).set_ 3 (.int .i64 0)).set_ 4 (.int .u64 0)).set_ 5 (.slice none 0 0))
                  have f := hR.frozen
                  have a0 := (hR.cell 0).trans (show _ = some (Value.int .i64 0) from rfl)
                  have a1 := (hR.cell 1).trans (show _ = some (Value.int .i64 0) from rfl)
                  have a2 := (hR.cell 2).trans (show _ = some (Value.int .i64 0) from rfl)
                  have a3 := (hR.cell 3).trans (show _ = some (Value.int .i64 0) from rfl)
                  have a4 := (hR.cell 4).trans (show _ = some (Value.int .u64 0) from rfl)
                  have a5 := (hR.cell 5).trans (show _ = some (Value.slice none 0 0) from rfl)
                  go_wp2_with fail
                  have hRR := HR.out
                  have z0 := (hRR.cell 0).trans (show _ = some (Value.int .i64 0) from rfl)
                  have z1 := (hRR.cell 1).trans (show _ = some (Value.int .i64 0) from rfl)
                  have z2 := (hRR.cell 2).trans (show _ = some (Value.int .i64 0) from rfl)
                  have z3 := (hRR.cell 3).trans (show _ = some (Value.int .i64 0) from rfl)
                  have z4 := (hRR.cell 4).trans (show _ = some (Value.int .u64 0) from rfl)
                  have z5 := (hRR.cell 5).trans (show _ = some (Value.slice none 0 0) from rfl)
                  refine bodyPost_ret (v := .tuple #[.agg #[.int .i64 0, .int .i64 0, .int .i64 0, .int .i64 0, .int .u64 0, .slice none 0 0], .int .i64 19]) (by simp [results, Try.results38, go_sem, z0, z1, z2, z3, z4, z5]) rfl (accP_no (by first | decide | assumption) ?_)
                  repeat (first | with_reducible refine Below.setCell ?_ (by dsimp only; omega) _ | with_reducible refine Below.drew ?_)
                  exact hB0
                · have b2 : decide (hh ≤ vh) = false := decide_eq_false hc2
                  have hw1 : IntKind.i64.wrap (hh - 1) = hh - 1 := IntWalk.i64_in _ (by omega)
                  have hne2 : (ve == 0) = false := beq_eq_false_iff_ne.2 (by omega)
                  have hne : ¬ ve = 0 := by omega
                  have hd1 : (hh - 1).tdiv ve = (hh - 1) / ve := Int.tdiv_eq_ediv_of_nonneg (by omega)
                  have hd2 : vh.tdiv ve = vh / ve := Int.tdiv_eq_ediv_of_nonneg (by omega)
                  have hz1 : 0 ≤ (hh - 1) / ve := Int.ediv_nonneg (by omega) (by omega)
                  have hz2 : (hh - 1) / ve ≤ hh - 1 := Int.ediv_le_self _ (by omega)
                  have hz3 : 0 ≤ vh / ve := Int.ediv_nonneg (by omega) (by omega)
                  have hz4 : vh / ve ≤ vh := Int.ediv_le_self _ (by omega)
                  generalize (hh - 1) / ve = q1 at *
                  generalize vh / ve = q2 at *
                  have hw2 : IntKind.i64.wrap q1 = q1 := IntWalk.i64_in _ (by omega)
                  have hw3 : IntKind.i64.wrap q2 = q2 := IntWalk.i64_in _ (by omega)
                  by_cases hc3 : q1 = q2
                  · have b3 := bne_no hc3
                    clear hc3
                    go_upto_region 22 with fail
                    go_quiet (fail)
                    clear x0 x2 x3 g0 g1 hw1 hw2 hw3 hd1 hd2 hz1 hz2 hz3 hz4 hne hne2
                    replace hX := Blk.drewN hX nq
                    replace hY := Blk.drewN hY nq
                    replace hR := Blk.drewN hR nq
                    replace hH := Blk.drewN hH nq
                    replace hB0 := hB0.drewN nq
                    generalize World.drewN wq nq = w2 at *
                    clear nq
                    have y9 := (hY.cell 9).trans (show _ = some (Value.int .i64 ch) from rfl)
                    have y10 := (hY.cell 10).trans (show _ = some (Value.int .i64 cr) from rfl)
                    have y11 := (hY.cell 11).trans (show _ = some (Value.int .i64 cs) from rfl)
                    have y12 := (hY.cell 12).trans (show _ = some (Value.bool chas) from rfl)
                    have y13 := (hY.cell 13).trans (show _ = some (Value.int .u64 cb) from rfl)
                    have y14 := (hY.cell 14).trans (show _ = some (Value.slice fA fl.length fk) from rfl)
                    go_upto_region 25 with fail
                    have hC : Blk (w2.alloc (.cells #[.int .i64 ch, .int .i64 cr, .int .i64 cs, .bool chas, .int .u64 cb, .slice fA fl.length fk] 37)) w2.heap.size 37 #[.int .i64 ch, .int .i64 cr, .int .i64 cs, .bool chas, .int .u64 cb, .slice fA fl.length fk] := Blk.new _ _ _
                    have hq := (Below.refl w2.heap.size w2).alloc (Nat.le_refl _) (.cells #[.int .i64 ch, .int .i64 cr, .int .i64 cs, .bool chas, .int .u64 cb, .slice fA fl.length fk] 37)
                    have hG2 : G < w2.heap.size := hH.lt
                    clear y9 y10 y11 y12 y13 y14
                    replace hX := hX.below hq hX.lt
                    replace hY := hY.below hq hY.lt
                    replace hR := hR.below hq hR.lt
                    replace hH := hH.below hq hH.lt
                    replace hB0 := hB0.trans (hq.mono hB0.size)
                    clear hq
                    generalize w2.alloc (.cells #[.int .i64 ch, .int .i64 cr, .int .i64 cs, .bool chas, .int .u64 cb, .slice fA fl.length fk] 37) = w3 at *
                    generalize w2.heap.size = G2 at *
                    clear w2
                    have x1 := (hX.cell 1).trans (show _ = some (Value.int .i64 vw) from rfl)
                    have g0 := (hH.cell 0).trans (show _ = some (Value.int .i64 hc) from rfl)
                    have g1 := (hH.cell 1).trans (show _ = some (Value.int .i64 hh) from rfl)
                    have g2 := (hH.cell 2).trans (show _ = some (Value.int .u64 hp) from rfl)
                    have g3 := (hH.cell 3).trans (show _ = some (Value.int .u64 ht) from rfl)
                    have g4 := (hH.cell 4).trans (show _ = some (Value.int .u64 hg) from rfl)
                    have g5 := (hH.cell 5).trans (show _ = some (Value.int .u64 hs) from rfl)
                    have g6 := (hH.cell 6).trans (show _ = some (Value.int .u64 hr) from rfl)
                    have g7 := (hH.cell 7).trans (show _ = some (Value.int .u64 hb) from rfl)
                    have g8 := (hH.cell 8).trans (show _ = some (Value.int .i64 ho) from rfl)
                    go_wp2_with fail
                    refine (hP7 _).mono ?_
                    rintro e wq ⟨rfl, hq⟩
                    clear x1 g0 g1 g2 g3 g4 g5 g6 g7 g8 hP7
                    replace hX := hX.below hq hX.lt
                    replace hY := hY.below hq hY.lt
                    replace hR := hR.below hq hR.lt
                    replace hH := hH.below hq hH.lt
                    replace hC := hC.below hq hC.lt
                    replace hB0 := hB0.trans (hq.mono hB0.size)
                    clear hq
                    have c0 := (hC.cell 0).trans (show _ = some (Value.int .i64 ch) from rfl)
                    have c2 := (hC.cell 2).trans (show _ = some (Value.int .i64 cs) from rfl)
                    have c3 := (hC.cell 3).trans (show _ = some (Value.bool chas) from rfl)
                    have c4 := (hC.cell 4).trans (show _ = some (Value.int .u64 cb) from rfl)
                    have g1 := (hH.cell 1).trans (show _ = some (Value.int .i64 hh) from rfl)
                    by_cases hc4 : ch = hh
                    · have b4 := bne_no hc4
                      clear hc4
                      by_cases hc5 : cs = 2
                      · have b5 := bne_no hc5
                        clear hc5
                        cases chas with
                        | true =>
                          by_cases hc6 : cb = N
                          · have b6 := bne_no hc6
                            clear hc6
                            have c1 := (hC.cell 1).trans (show _ = some (Value.int .i64 cr) from rfl)
                            have c5 := (hC.cell 5).trans (show _ = some (Value.slice fA fl.length fk) from rfl)
                            have x5 := (hX.cell 5).trans (show _ = some (Value.slice vA vl.length vk) from rfl)
                            go_wp2_with fail
                            refine (hP8 _ (Rd.below hvl (hB0.mono hB)) (hc0.below (hB0.mono hB)) (by have := hB0.size; omega)).mono ?_
                            rintro e wq ⟨rfl, hq⟩
                            clear x5 c0 c1 c2 c3 c4 c5 g1 hP8
                            replace hX := hX.below hq hX.lt
                            replace hY := hY.below hq hY.lt
                            replace hR := hR.below hq hR.lt
                            replace hH := hH.below hq hH.lt
                            replace hC := hC.below hq hC.lt
                            replace hB0 := hB0.trans (hq.mono hB0.size)
                            clear hq
                            by_cases hK : K = 0
                            · have bK := bne_no hK
                              have x1 := (hX.cell 1).trans (show _ = some (Value.int .i64 vw) from rfl)
                              have y15 := (hY.cell 15).trans (show _ = some (Value.slice sA sl.length sk) from rfl)
                              go_wp2_with fail
                              refine (hP9 _ (Rd.below hsl (hB0.mono hB)) (by have := hB0.size; omega)).mono ?_
                              rintro e wq ⟨rfl, hq⟩
                              clear x1 y15 hP9
                              replace hX := hX.below hq hX.lt
                              replace hY := hY.below hq hY.lt
                              replace hR := hR.below hq hR.lt
                              replace hH := hH.below hq hH.lt
                              replace hC := hC.below hq hC.lt
                              replace hB0 := hB0.trans (hq.mono hB0.size)
                              clear hq
                              have g1 := (hH.cell 1).trans (show _ = some (Value.int .i64 hh) from rfl)
                              have g5 := (hH.cell 5).trans (show _ = some (Value.int .u64 hs) from rfl)
                              have g7 := (hH.cell 7).trans (show _ = some (Value.int .u64 hb) from rfl)
                              by_cases hc7 : Dg = hb
                              · have b7 := bne_no hc7
                                clear hc7
                                obtain rfl : E = 0 := by rw [HE.out]; (try rw [b2]); simp [accB, mayS, hev, heh, hec, heb, b1, hc2, b3, b4, b5, b6, hK, b7]
                                obtain ⟨i0, hi0, hz0, hz1, hz2⟩ := info_parts seatInfo
                                have x0 := (hX.cell 0).trans (show _ = some (Value.int .i64 vc) from rfl)
                                have x1 := (hX.cell 1).trans (show _ = some (Value.int .i64 vw) from rfl)
                                have x2 := (hX.cell 2).trans (show _ = some (Value.int .i64 ve) from rfl)
                                have x3 := (hX.cell 3).trans (show _ = some (Value.int .i64 vh) from rfl)
                                have x4 := (hX.cell 4).trans (show _ = some (Value.int .u64 vs) from rfl)
                                have x5 := (hX.cell 5).trans (show _ = some (Value.slice vA vl.length vk) from rfl)
                                go_upto_region 35 with fail
                                have hO : Blk (wq.alloc (.cells #[.int .i64 vc, .int .i64 vw, .int .i64 ve, .int .i64 vh, .int .u64 vs, .slice vA vl.length vk] 82)) wq.heap.size 82 #[.int .i64 vc, .int .i64 vw, .int .i64 ve, .int .i64 vh, .int .u64 vs, .slice vA vl.length vk] := Blk.new _ _ _
                                have hq := (Below.refl wq.heap.size wq).alloc (Nat.le_refl _) (.cells #[.int .i64 vc, .int .i64 vw, .int .i64 ve, .int .i64 vh, .int .u64 vs, .slice vA vl.length vk] 82)
                                have hG3 : G2 < wq.heap.size := hC.lt
                                clear x0 x1 x2 x3 x4 x5 g1 g5 g7
                                replace hX := hX.below hq hX.lt
                                replace hY := hY.below hq hY.lt
                                replace hR := hR.below hq hR.lt
                                replace hH := hH.below hq hH.lt
                                replace hC := hC.below hq hC.lt
                                replace hB0 := hB0.trans (hq.mono hB0.size)
                                clear hq
                                generalize wq.alloc (.cells #[.int .i64 vc, .int .i64 vw, .int .i64 ve, .int .i64 vh, .int .u64 vs, .slice vA vl.length vk] 82) = w5 at *
                                generalize wq.heap.size = G3 at *
                                clear wq
                                have g1 := (hH.cell 1).trans (show _ = some (Value.int .i64 hh) from rfl)
                                have g5 := (hH.cell 5).trans (show _ = some (Value.int .u64 hs) from rfl)
                                have o3 := (hO.cell 3).trans (show _ = some (Value.int .i64 vh) from rfl)
                                have o4 := (hO.cell 4).trans (show _ = some (Value.int .u64 vs) from rfl)
                                have of := hO.frozen
                                have m1 : ¬ G3 = G := by omega
                                have m2 : ¬ G = G3 := by omega
                                go_upto_region 37 with fail
                                clear g1 g5 o3 o4 of
                                replace hX := (hX.far (p := ⟨G3, 3, none⟩) (by simp <;> omega) (.int .i64 hh)).far (p := ⟨G3, 4, none⟩) (by simp <;> omega) (.int .u64 hs)
                                replace hY := (hY.far (p := ⟨G3, 3, none⟩) (by simp <;> omega) (.int .i64 hh)).far (p := ⟨G3, 4, none⟩) (by simp <;> omega) (.int .u64 hs)
                                replace hR := (hR.far (p := ⟨G3, 3, none⟩) (by simp <;> omega) (.int .i64 hh)).far (p := ⟨G3, 4, none⟩) (by simp <;> omega) (.int .u64 hs)
                                replace hH := (hH.far (p := ⟨G3, 3, none⟩) (by simp <;> omega) (.int .i64 hh)).far (p := ⟨G3, 4, none⟩) (by simp <;> omega) (.int .u64 hs)
                                replace hC := (hC.far (p := ⟨G3, 3, none⟩) (by simp <;> omega) (.int .i64 hh)).far (p := ⟨G3, 4, none⟩) (by simp <;> omega) (.int .u64 hs)
                                replace hO := (hO.set_ 3 (.int .i64 hh)).set_ 4 (.int .u64 hs)
                                change Blk _ G3 82 #[.int .i64 vc, .int .i64 vw, .int .i64 ve, .int .i64 hh, .int .u64 hs, .slice vA vl.length vk] at hO
                                replace hB0 := (hB0.setCell (p := ⟨G3, 3, none⟩) (by show _ ≤ G3; omega) (.int .i64 hh)).setCell (p := ⟨G3, 4, none⟩) (by show _ ≤ G3; omega) (.int .u64 hs)
                                generalize ((w5.setCell ⟨G3, 3, none⟩ (.int .i64 hh)).setCell ⟨G3, 4, none⟩ (.int .u64 hs)) = w6 at *
                                have hz : Blk (w6.alloc (.cells #[] 147)) w6.heap.size 147 #[] := Blk.new _ _ _
                                have own0 : (w6.alloc (.cells #[] 147)).ownsRow w6.heap.size 147 2 (.slice (some ⟨w6.heap.size, 0, none⟩) 0 0) 0 [] := own_zero w6 _
                                have hq := (Below.refl w6.heap.size w6).alloc (Nat.le_refl _) (.cells #[] 147)
                                have hG4 : G3 < w6.heap.size := hO.lt
                                replace hX := hX.below hq hX.lt
                                replace hY := hY.below hq hY.lt
                                replace hR := hR.below hq hR.lt
                                replace hH := hH.below hq hH.lt
                                replace hC := hC.below hq hC.lt
                                replace hO := hO.below hq hO.lt
                                replace hB0 := hB0.trans (hq.mono hB0.size)
                                clear hq
                                have hsq := Rd.below hsl (hB0.mono hB)
                                have y15 := (hY.cell 15).trans (show _ = some (Value.slice sA sl.length sk) from rfl)
                                go_wp2_with (at_builtin; refine wpList_append_any _ rfl (.tmp 144) (.tmp 146) 80 rfl w6.heap.size 147 i0 _ 2 16 Try.underlying80 hi0 hz0 hz1 hz2 rfl (by omega) _ 0 [] (by rfl) own0 B sA sl.length sk (sl.flatMap seatCells) (by rfl) hsq (seats_one sl) (by unfold maxLen; omega) (by omega) (by simp) ?_; intro v9 w9 hown9 hg9 hat9; rw [Nat.zero_add, List.nil_append] at hown9; obtain ⟨rA, rc, rfl⟩ := own_shape hown9; have hR9 := hR.grown hg9 (fun h => by simp [Value.ownBlock] at h <;> omega); have hO9 := hO.grown hg9 (fun h => by simp [Value.ownBlock] at h <;> omega); have hb9 : Below w.heap.size w w9 := hB0.grown hg9 hB0.size (fun k h => by simp [Value.ownBlock] at h <;> omega); have e0 := (hO9.cell 0).trans (show _ = some (Value.int .i64 vc) from rfl); have e1 := (hO9.cell 1).trans (show _ = some (Value.int .i64 vw) from rfl); have e2 := (hO9.cell 2).trans (show _ = some (Value.int .i64 ve) from rfl); have e3 := (hO9.cell 3).trans (show _ = some (Value.int .i64 hh) from rfl); have e4 := (hO9.cell 4).trans (show _ = some (Value.int .u64 hs) from rfl); have e5 := (hO9.cell 5).trans (show _ = some (Value.slice vA vl.length vk) from rfl); have a0 := (hR9.cell 0).trans (show _ = some (Value.int .i64 0) from rfl); have a1 := (hR9.cell 1).trans (show _ = some (Value.int .i64 0) from rfl); have a2 := (hR9.cell 2).trans (show _ = some (Value.int .i64 0) from rfl); have a3 := (hR9.cell 3).trans (show _ = some (Value.int .i64 0) from rfl); have a4 := (hR9.cell 4).trans (show _ = some (Value.int .u64 0) from rfl); have a5 := (hR9.cell 5).trans (show _ = some (Value.slice none 0 0) from rfl); have ef := hO9.frozen; have af := hR9.frozen; have n1 : ¬ w.heap.size + 2 = G3 := (by omega); have n2 : ¬ G3 = w.heap.size + 2 := (by omega); have o5 := own_farV hown9 hO9 (by decide) (p := ⟨G3, 5, none⟩) rfl (.slice rA sl.length rc); have hR := hR9.far (p := ⟨G3, 5, none⟩) (by simp <;> omega) (.slice rA sl.length rc); have hb5 := hb9.setCell (p := ⟨G3, 5, none⟩) (by show _ ≤ G3; omega) (.slice rA sl.length rc); have HR := Lib.hid ((((((hR.set_ 0 (.int .i64 vc)).set_ 1 (.int .i64 vw)).set_ 2 (.int .i64 ve)).set_ 3 (.int .i64 hh)).set_ 4 (.int .u64 hs)).set_ 5 (.slice rA sl.length rc)); have HS := Lib.hid (own_six o5 hR (by decide) (.int .i64 vc) (.int .i64 vw) (.int .i64 ve) (.int .i64 hh) (.int .u64 hs) (.slice rA sl.length rc)); have HB := Lib.hid (below_six2 hb5 (show w.heap.size ≤ w.heap.size + 2 by omega) (.int .i64 vc) (.int .i64 vw) (.int .i64 ve) (.int .i64 hh) (.int .u64 hs) (.slice rA sl.length rc)); clear hR o5 hb5)
                                have hRR := HR.out
                                have z0 := (hRR.cell 0).trans (show _ = some (Value.int .i64 vc) from rfl)
                                have z1 := (hRR.cell 1).trans (show _ = some (Value.int .i64 vw) from rfl)
                                have z2 := (hRR.cell 2).trans (show _ = some (Value.int .i64 ve) from rfl)
                                have z3 := (hRR.cell 3).trans (show _ = some (Value.int .i64 hh) from rfl)
                                have z4 := (hRR.cell 4).trans (show _ = some (Value.int .u64 hs) from rfl)
                                have z5 := (hRR.cell 5).trans (show _ = some (Value.slice rA sl.length rc) from rfl)
                                exact bodyPost_ret (v := .tuple #[.agg #[.int .i64 vc, .int .i64 vw, .int .i64 ve, .int .i64 hh, .int .u64 hs, .slice rA sl.length rc], .int .i64 0]) (by simp [results, Try.results38, go_sem, z0, z1, z2, z3, z4, z5]) rfl (accP_yes (Rd.of_own HS.out) (own_from HS.out (by omega)) HB.out)
                              · have b7 := bne_yes hc7
                                obtain rfl : E = 5 := by rw [HE.out]; (try rw [b2]); simp [accB, mayS, hev, heh, hec, heb, b1, hc2, b3, b4, b5, b6, hK, b7]
                                have HR := Lib.hid ((((((hR.set_ 0 (.int .i64 0)).set_ 1 (.int .i64 0)).set_ 2 (.int .i64 0)).set_ 3 (.int .i64 0)).set_ 4 (.int .u64 0)).set_ 5 (.slice none 0 0))
                                have f := hR.frozen
                                have a0 := (hR.cell 0).trans (show _ = some (Value.int .i64 0) from rfl)
                                have a1 := (hR.cell 1).trans (show _ = some (Value.int .i64 0) from rfl)
                                have a2 := (hR.cell 2).trans (show _ = some (Value.int .i64 0) from rfl)
                                have a3 := (hR.cell 3).trans (show _ = some (Value.int .i64 0) from rfl)
                                have a4 := (hR.cell 4).trans (show _ = some (Value.int .u64 0) from rfl)
                                have a5 := (hR.cell 5).trans (show _ = some (Value.slice none 0 0) from rfl)
                                go_wp2_with fail
                                have hRR := HR.out
                                have z0 := (hRR.cell 0).trans (show _ = some (Value.int .i64 0) from rfl)
                                have z1 := (hRR.cell 1).trans (show _ = some (Value.int .i64 0) from rfl)
                                have z2 := (hRR.cell 2).trans (show _ = some (Value.int .i64 0) from rfl)
                                have z3 := (hRR.cell 3).trans (show _ = some (Value.int .i64 0) from rfl)
                                have z4 := (hRR.cell 4).trans (show _ = some (Value.int .u64 0) from rfl)
                                have z5 := (hRR.cell 5).trans (show _ = some (Value.slice none 0 0) from rfl)
                                refine bodyPost_ret (v := .tuple #[.agg #[.int .i64 0, .int .i64 0, .int .i64 0, .int .i64 0, .int .u64 0, .slice none 0 0], .int .i64 5]) (by simp [results, Try.results38, go_sem, z0, z1, z2, z3, z4, z5]) rfl (accP_no (by first | decide | assumption) ?_)
                                repeat (first | with_reducible refine Below.setCell ?_ (by dsimp only; omega) _ | with_reducible refine Below.drew ?_)
                                exact hB0
                            · have bK := bne_yes hK
                              obtain rfl : E = K := by rw [HE.out]; (try rw [b2]); simp [accB, mayS, hev, heh, hec, heb, b1, hc2, b3, b4, b5, b6, hK]
                              have HR := Lib.hid ((((((hR.set_ 0 (.int .i64 0)).set_ 1 (.int .i64 0)).set_ 2 (.int .i64 0)).set_ 3 (.int .i64 0)).set_ 4 (.int .u64 0)).set_ 5 (.slice none 0 0))
                              have f := hR.frozen
                              have a0 := (hR.cell 0).trans (show _ = some (Value.int .i64 0) from rfl)
                              have a1 := (hR.cell 1).trans (show _ = some (Value.int .i64 0) from rfl)
                              have a2 := (hR.cell 2).trans (show _ = some (Value.int .i64 0) from rfl)
                              have a3 := (hR.cell 3).trans (show _ = some (Value.int .i64 0) from rfl)
                              have a4 := (hR.cell 4).trans (show _ = some (Value.int .u64 0) from rfl)
                              have a5 := (hR.cell 5).trans (show _ = some (Value.slice none 0 0) from rfl)
                              go_wp2_with fail
                              have hRR := HR.out
                              have z0 := (hRR.cell 0).trans (show _ = some (Value.int .i64 0) from rfl)
                              have z1 := (hRR.cell 1).trans (show _ = some (Value.int .i64 0) from rfl)
                              have z2 := (hRR.cell 2).trans (show _ = some (Value.int .i64 0) from rfl)
                              have z3 := (hRR.cell 3).trans (show _ = some (Value.int .i64 0) from rfl)
                              have z4 := (hRR.cell 4).trans (show _ = some (Value.int .u64 0) from rfl)
                              have z5 := (hRR.cell 5).trans (show _ = some (Value.slice none 0 0) from rfl)
                              refine bodyPost_ret (v := .tuple #[.agg #[.int .i64 0, .int .i64 0, .int .i64 0, .int .i64 0, .int .u64 0, .slice none 0 0], .int .i64 E]) (by simp [results, Try.results38, go_sem, z0, z1, z2, z3, z4, z5]) rfl (accP_no (by first | decide | assumption) ?_)
                              repeat (first | with_reducible refine Below.setCell ?_ (by dsimp only; omega) _ | with_reducible refine Below.drew ?_)
                              exact hB0
                          · have b6 := bne_yes hc6
                            obtain rfl : E = 5 := by rw [HE.out]; (try rw [b2]); simp [accB, mayS, hev, heh, hec, heb, b1, hc2, b3, b4, b5, b6]
                            have HR := Lib.hid ((((((hR.set_ 0 (.int .i64 0)).set_ 1 (.int .i64 0)).set_ 2 (.int .i64 0)).set_ 3 (.int .i64 0)).set_ 4 (.int .u64 0)).set_ 5 (.slice none 0 0))
                            have f := hR.frozen
                            have a0 := (hR.cell 0).trans (show _ = some (Value.int .i64 0) from rfl)
                            have a1 := (hR.cell 1).trans (show _ = some (Value.int .i64 0) from rfl)
                            have a2 := (hR.cell 2).trans (show _ = some (Value.int .i64 0) from rfl)
                            have a3 := (hR.cell 3).trans (show _ = some (Value.int .i64 0) from rfl)
                            have a4 := (hR.cell 4).trans (show _ = some (Value.int .u64 0) from rfl)
                            have a5 := (hR.cell 5).trans (show _ = some (Value.slice none 0 0) from rfl)
                            go_wp2_with fail
                            have hRR := HR.out
                            have z0 := (hRR.cell 0).trans (show _ = some (Value.int .i64 0) from rfl)
                            have z1 := (hRR.cell 1).trans (show _ = some (Value.int .i64 0) from rfl)
                            have z2 := (hRR.cell 2).trans (show _ = some (Value.int .i64 0) from rfl)
                            have z3 := (hRR.cell 3).trans (show _ = some (Value.int .i64 0) from rfl)
                            have z4 := (hRR.cell 4).trans (show _ = some (Value.int .u64 0) from rfl)
                            have z5 := (hRR.cell 5).trans (show _ = some (Value.slice none 0 0) from rfl)
                            refine bodyPost_ret (v := .tuple #[.agg #[.int .i64 0, .int .i64 0, .int .i64 0, .int .i64 0, .int .u64 0, .slice none 0 0], .int .i64 5]) (by simp [results, Try.results38, go_sem, z0, z1, z2, z3, z4, z5]) rfl (accP_no (by first | decide | assumption) ?_)
                            repeat (first | with_reducible refine Below.setCell ?_ (by dsimp only; omega) _ | with_reducible refine Below.drew ?_)
                            exact hB0
                        | false =>
                          obtain rfl : E = 5 := by rw [HE.out]; (try rw [b2]); simp [accB, mayS, hev, heh, hec, heb, b1, hc2, b3, b4, b5]
                          have HR := Lib.hid ((((((hR.set_ 0 (.int .i64 0)).set_ 1 (.int .i64 0)).set_ 2 (.int .i64 0)).set_ 3 (.int .i64 0)).set_ 4 (.int .u64 0)).set_ 5 (.slice none 0 0))
                          have f := hR.frozen
                          have a0 := (hR.cell 0).trans (show _ = some (Value.int .i64 0) from rfl)
                          have a1 := (hR.cell 1).trans (show _ = some (Value.int .i64 0) from rfl)
                          have a2 := (hR.cell 2).trans (show _ = some (Value.int .i64 0) from rfl)
                          have a3 := (hR.cell 3).trans (show _ = some (Value.int .i64 0) from rfl)
                          have a4 := (hR.cell 4).trans (show _ = some (Value.int .u64 0) from rfl)
                          have a5 := (hR.cell 5).trans (show _ = some (Value.slice none 0 0) from rfl)
                          go_wp2_with fail
                          have hRR := HR.out
                          have z0 := (hRR.cell 0).trans (show _ = some (Value.int .i64 0) from rfl)
                          have z1 := (hRR.cell 1).trans (show _ = some (Value.int .i64 0) from rfl)
                          have z2 := (hRR.cell 2).trans (show _ = some (Value.int .i64 0) from rfl)
                          have z3 := (hRR.cell 3).trans (show _ = some (Value.int .i64 0) from rfl)
                          have z4 := (hRR.cell 4).trans (show _ = some (Value.int .u64 0) from rfl)
                          have z5 := (hRR.cell 5).trans (show _ = some (Value.slice none 0 0) from rfl)
                          refine bodyPost_ret (v := .tuple #[.agg #[.int .i64 0, .int .i64 0, .int .i64 0, .int .i64 0, .int .u64 0, .slice none 0 0], .int .i64 5]) (by simp [results, Try.results38, go_sem, z0, z1, z2, z3, z4, z5]) rfl (accP_no (by first | decide | assumption) ?_)
                          repeat (first | with_reducible refine Below.setCell ?_ (by dsimp only; omega) _ | with_reducible refine Below.drew ?_)
                          exact hB0
                      · have b5 := bne_yes hc5
                        obtain rfl : E = 5 := by rw [HE.out]; (try rw [b2]); simp [accB, mayS, hev, heh, hec, heb, b1, hc2, b3, b4, b5]
                        have HR := Lib.hid ((((((hR.set_ 0 (.int .i64 0)).set_ 1 (.int .i64 0)).set_ 2 (.int .i64 0)).set_ 3 (.int .i64 0)).set_ 4 (.int .u64 0)).set_ 5 (.slice none 0 0))
                        have f := hR.frozen
                        have a0 := (hR.cell 0).trans (show _ = some (Value.int .i64 0) from rfl)
                        have a1 := (hR.cell 1).trans (show _ = some (Value.int .i64 0) from rfl)
                        have a2 := (hR.cell 2).trans (show _ = some (Value.int .i64 0) from rfl)
                        have a3 := (hR.cell 3).trans (show _ = some (Value.int .i64 0) from rfl)
                        have a4 := (hR.cell 4).trans (show _ = some (Value.int .u64 0) from rfl)
                        have a5 := (hR.cell 5).trans (show _ = some (Value.slice none 0 0) from rfl)
                        go_wp2_with fail
                        have hRR := HR.out
                        have z0 := (hRR.cell 0).trans (show _ = some (Value.int .i64 0) from rfl)
                        have z1 := (hRR.cell 1).trans (show _ = some (Value.int .i64 0) from rfl)
                        have z2 := (hRR.cell 2).trans (show _ = some (Value.int .i64 0) from rfl)
                        have z3 := (hRR.cell 3).trans (show _ = some (Value.int .i64 0) from rfl)
                        have z4 := (hRR.cell 4).trans (show _ = some (Value.int .u64 0) from rfl)
                        have z5 := (hRR.cell 5).trans (show _ = some (Value.slice none 0 0) from rfl)
                        refine bodyPost_ret (v := .tuple #[.agg #[.int .i64 0, .int .i64 0, .int .i64 0, .int .i64 0, .int .u64 0, .slice none 0 0], .int .i64 5]) (by simp [results, Try.results38, go_sem, z0, z1, z2, z3, z4, z5]) rfl (accP_no (by first | decide | assumption) ?_)
                        repeat (first | with_reducible refine Below.setCell ?_ (by dsimp only; omega) _ | with_reducible refine Below.drew ?_)
                        exact hB0
                    · have b4 := bne_yes hc4
                      obtain rfl : E = 5 := by rw [HE.out]; (try rw [b2]); simp [accB, mayS, hev, heh, hec, heb, b1, hc2, b3, b4]
                      have HR := Lib.hid ((((((hR.set_ 0 (.int .i64 0)).set_ 1 (.int .i64 0)).set_ 2 (.int .i64 0)).set_ 3 (.int .i64 0)).set_ 4 (.int .u64 0)).set_ 5 (.slice none 0 0))
                      have f := hR.frozen
                      have a0 := (hR.cell 0).trans (show _ = some (Value.int .i64 0) from rfl)
                      have a1 := (hR.cell 1).trans (show _ = some (Value.int .i64 0) from rfl)
                      have a2 := (hR.cell 2).trans (show _ = some (Value.int .i64 0) from rfl)
                      have a3 := (hR.cell 3).trans (show _ = some (Value.int .i64 0) from rfl)
                      have a4 := (hR.cell 4).trans (show _ = some (Value.int .u64 0) from rfl)
                      have a5 := (hR.cell 5).trans (show _ = some (Value.slice none 0 0) from rfl)
                      go_wp2_with fail
                      have hRR := HR.out
                      have z0 := (hRR.cell 0).trans (show _ = some (Value.int .i64 0) from rfl)
                      have z1 := (hRR.cell 1).trans (show _ = some (Value.int .i64 0) from rfl)
                      have z2 := (hRR.cell 2).trans (show _ = some (Value.int .i64 0) from rfl)
                      have z3 := (hRR.cell 3).trans (show _ = some (Value.int .i64 0) from rfl)
                      have z4 := (hRR.cell 4).trans (show _ = some (Value.int .u64 0) from rfl)
                      have z5 := (hRR.cell 5).trans (show _ = some (Value.slice none 0 0) from rfl)
                      refine bodyPost_ret (v := .tuple #[.agg #[.int .i64 0, .int .i64 0, .int .i64 0, .int .i64 0, .int .u64 0, .slice none 0 0], .int .i64 5]) (by simp [results, Try.results38, go_sem, z0, z1, z2, z3, z4, z5]) rfl (accP_no (by first | decide | assumption) ?_)
                      repeat (first | with_reducible refine Below.setCell ?_ (by dsimp only; omega) _ | with_reducible refine Below.drew ?_)
                      exact hB0
                  · have b3 := bne_yes hc3
                    go_upto_region 22 with fail
                    go_quiet (fail)
                    clear x0 x2 x3 g0 g1 hw1 hw2 hw3 hd1 hd2 hz1 hz2 hz3 hz4 hne hne2
                    replace hX := Blk.drewN hX nq
                    replace hY := Blk.drewN hY nq
                    replace hR := Blk.drewN hR nq
                    replace hH := Blk.drewN hH nq
                    replace hB0 := hB0.drewN nq
                    generalize World.drewN wq nq = w2 at *
                    clear nq
                    obtain rfl : E = 20 := by rw [HE.out]; (try rw [b2]); simp [accB, mayS, hev, heh, hec, heb, b1, hc2, b3]
                    have HR := Lib.hid ((((((hR.set_ 0 (.int .i64 0)).set_ 1 (.int .i64 0)).set_ 2 (.int .i64 0)).set_ 3 (.int .i64 0)).set_ 4 (.int .u64 0)).set_ 5 (.slice none 0 0))
                    have f := hR.frozen
                    have a0 := (hR.cell 0).trans (show _ = some (Value.int .i64 0) from rfl)
                    have a1 := (hR.cell 1).trans (show _ = some (Value.int .i64 0) from rfl)
                    have a2 := (hR.cell 2).trans (show _ = some (Value.int .i64 0) from rfl)
                    have a3 := (hR.cell 3).trans (show _ = some (Value.int .i64 0) from rfl)
                    have a4 := (hR.cell 4).trans (show _ = some (Value.int .u64 0) from rfl)
                    have a5 := (hR.cell 5).trans (show _ = some (Value.slice none 0 0) from rfl)
                    go_wp2_with fail
                    have hRR := HR.out
                    have z0 := (hRR.cell 0).trans (show _ = some (Value.int .i64 0) from rfl)
                    have z1 := (hRR.cell 1).trans (show _ = some (Value.int .i64 0) from rfl)
                    have z2 := (hRR.cell 2).trans (show _ = some (Value.int .i64 0) from rfl)
                    have z3 := (hRR.cell 3).trans (show _ = some (Value.int .i64 0) from rfl)
                    have z4 := (hRR.cell 4).trans (show _ = some (Value.int .u64 0) from rfl)
                    have z5 := (hRR.cell 5).trans (show _ = some (Value.slice none 0 0) from rfl)
                    refine bodyPost_ret (v := .tuple #[.agg #[.int .i64 0, .int .i64 0, .int .i64 0, .int .i64 0, .int .u64 0, .slice none 0 0], .int .i64 20]) (by simp [results, Try.results38, go_sem, z0, z1, z2, z3, z4, z5]) rfl (accP_no (by first | decide | assumption) ?_)
                    repeat (first | with_reducible refine Below.setCell ?_ (by dsimp only; omega) _ | with_reducible refine Below.drew ?_)
                    exact hB0
              · have b1 := bne_yes hc1
                obtain rfl : E = 24 := by rw [HE.out]; (try rw [b2]); simp [accB, mayS, hev, heh, hec, heb, b1]
                have HR := Lib.hid ((((((hR.set_ 0 (.int .i64 0)).set_ 1 (.int .i64 0)).set_ 2 (.int .i64 0)).set_ 3 (.int .i64 0)).set_ 4 (.int .u64 0)).set_ 5 (.slice none 0 0))
                have f := hR.frozen
                have a0 := (hR.cell 0).trans (show _ = some (Value.int .i64 0) from rfl)
                have a1 := (hR.cell 1).trans (show _ = some (Value.int .i64 0) from rfl)
                have a2 := (hR.cell 2).trans (show _ = some (Value.int .i64 0) from rfl)
                have a3 := (hR.cell 3).trans (show _ = some (Value.int .i64 0) from rfl)
                have a4 := (hR.cell 4).trans (show _ = some (Value.int .u64 0) from rfl)
                have a5 := (hR.cell 5).trans (show _ = some (Value.slice none 0 0) from rfl)
                go_wp2_with fail
                have hRR := HR.out
                have z0 := (hRR.cell 0).trans (show _ = some (Value.int .i64 0) from rfl)
                have z1 := (hRR.cell 1).trans (show _ = some (Value.int .i64 0) from rfl)
                have z2 := (hRR.cell 2).trans (show _ = some (Value.int .i64 0) from rfl)
                have z3 := (hRR.cell 3).trans (show _ = some (Value.int .i64 0) from rfl)
                have z4 := (hRR.cell 4).trans (show _ = some (Value.int .u64 0) from rfl)
                have z5 := (hRR.cell 5).trans (show _ = some (Value.slice none 0 0) from rfl)
                refine bodyPost_ret (v := .tuple #[.agg #[.int .i64 0, .int .i64 0, .int .i64 0, .int .i64 0, .int .u64 0, .slice none 0 0], .int .i64 24]) (by simp [results, Try.results38, go_sem, z0, z1, z2, z3, z4, z5]) rfl (accP_no (by first | decide | assumption) ?_)
                repeat (first | with_reducible refine Below.setCell ?_ (by dsimp only; omega) _ | with_reducible refine Below.drew ?_)
                exact hB0
          · have beb := bne_yes heb
            obtain rfl : E = eb := by rw [HE.out]; (try rw [b2]); simp [accB, mayS, hev, heh, hec, heb]
            have HR := Lib.hid ((((((hR.set_ 0 (.int .i64 0)).set_ 1 (.int .i64 0)).set_ 2 (.int .i64 0)).set_ 3 (.int .i64 0)).set_ 4 (.int .u64 0)).set_ 5 (.slice none 0 0))
            have f := hR.frozen
            have a0 := (hR.cell 0).trans (show _ = some (Value.int .i64 0) from rfl)
            have a1 := (hR.cell 1).trans (show _ = some (Value.int .i64 0) from rfl)
            have a2 := (hR.cell 2).trans (show _ = some (Value.int .i64 0) from rfl)
            have a3 := (hR.cell 3).trans (show _ = some (Value.int .i64 0) from rfl)
            have a4 := (hR.cell 4).trans (show _ = some (Value.int .u64 0) from rfl)
            have a5 := (hR.cell 5).trans (show _ = some (Value.slice none 0 0) from rfl)
            go_wp2_with fail
            have hRR := HR.out
            have z0 := (hRR.cell 0).trans (show _ = some (Value.int .i64 0) from rfl)
            have z1 := (hRR.cell 1).trans (show _ = some (Value.int .i64 0) from rfl)
            have z2 := (hRR.cell 2).trans (show _ = some (Value.int .i64 0) from rfl)
            have z3 := (hRR.cell 3).trans (show _ = some (Value.int .i64 0) from rfl)
            have z4 := (hRR.cell 4).trans (show _ = some (Value.int .u64 0) from rfl)
            have z5 := (hRR.cell 5).trans (show _ = some (Value.slice none 0 0) from rfl)
            refine bodyPost_ret (v := .tuple #[.agg #[.int .i64 0, .int .i64 0, .int .i64 0, .int .i64 0, .int .u64 0, .slice none 0 0], .int .i64 E]) (by simp [results, Try.results38, go_sem, z0, z1, z2, z3, z4, z5]) rfl (accP_no (by first | decide | assumption) ?_)
            repeat (first | with_reducible refine Below.setCell ?_ (by dsimp only; omega) _ | with_reducible refine Below.drew ?_)
            exact hB0
        · have bec := bne_yes hec
          obtain rfl : E = ec := by rw [HE.out]; (try rw [b2]); simp [accB, mayS, hev, heh, hec]
          have HR := Lib.hid ((((((hR.set_ 0 (.int .i64 0)).set_ 1 (.int .i64 0)).set_ 2 (.int .i64 0)).set_ 3 (.int .i64 0)).set_ 4 (.int .u64 0)).set_ 5 (.slice none 0 0))
          have f := hR.frozen
          have a0 := (hR.cell 0).trans (show _ = some (Value.int .i64 0) from rfl)
          have a1 := (hR.cell 1).trans (show _ = some (Value.int .i64 0) from rfl)
          have a2 := (hR.cell 2).trans (show _ = some (Value.int .i64 0) from rfl)
          have a3 := (hR.cell 3).trans (show _ = some (Value.int .i64 0) from rfl)
          have a4 := (hR.cell 4).trans (show _ = some (Value.int .u64 0) from rfl)
          have a5 := (hR.cell 5).trans (show _ = some (Value.slice none 0 0) from rfl)
          go_wp2_with fail
          have hRR := HR.out
          have z0 := (hRR.cell 0).trans (show _ = some (Value.int .i64 0) from rfl)
          have z1 := (hRR.cell 1).trans (show _ = some (Value.int .i64 0) from rfl)
          have z2 := (hRR.cell 2).trans (show _ = some (Value.int .i64 0) from rfl)
          have z3 := (hRR.cell 3).trans (show _ = some (Value.int .i64 0) from rfl)
          have z4 := (hRR.cell 4).trans (show _ = some (Value.int .u64 0) from rfl)
          have z5 := (hRR.cell 5).trans (show _ = some (Value.slice none 0 0) from rfl)
          refine bodyPost_ret (v := .tuple #[.agg #[.int .i64 0, .int .i64 0, .int .i64 0, .int .i64 0, .int .u64 0, .slice none 0 0], .int .i64 E]) (by simp [results, Try.results38, go_sem, z0, z1, z2, z3, z4, z5]) rfl (accP_no (by first | decide | assumption) ?_)
          repeat (first | with_reducible refine Below.setCell ?_ (by dsimp only; omega) _ | with_reducible refine Below.drew ?_)
          exact hB0
      · have beh := bne_yes heh
        obtain rfl : E = eh := by rw [HE.out]; (try rw [b2]); simp [accB, mayS, hev, heh]
        have HR := Lib.hid ((((((hR.set_ 0 (.int .i64 0)).set_ 1 (.int .i64 0)).set_ 2 (.int .i64 0)).set_ 3 (.int .i64 0)).set_ 4 (.int .u64 0)).set_ 5 (.slice none 0 0))
        have f := hR.frozen
        have a0 := (hR.cell 0).trans (show _ = some (Value.int .i64 0) from rfl)
        have a1 := (hR.cell 1).trans (show _ = some (Value.int .i64 0) from rfl)
        have a2 := (hR.cell 2).trans (show _ = some (Value.int .i64 0) from rfl)
        have a3 := (hR.cell 3).trans (show _ = some (Value.int .i64 0) from rfl)
        have a4 := (hR.cell 4).trans (show _ = some (Value.int .u64 0) from rfl)
        have a5 := (hR.cell 5).trans (show _ = some (Value.slice none 0 0) from rfl)
        go_wp2_with fail
        have hRR := HR.out
        have z0 := (hRR.cell 0).trans (show _ = some (Value.int .i64 0) from rfl)
        have z1 := (hRR.cell 1).trans (show _ = some (Value.int .i64 0) from rfl)
        have z2 := (hRR.cell 2).trans (show _ = some (Value.int .i64 0) from rfl)
        have z3 := (hRR.cell 3).trans (show _ = some (Value.int .i64 0) from rfl)
        have z4 := (hRR.cell 4).trans (show _ = some (Value.int .u64 0) from rfl)
        have z5 := (hRR.cell 5).trans (show _ = some (Value.slice none 0 0) from rfl)
        refine bodyPost_ret (v := .tuple #[.agg #[.int .i64 0, .int .i64 0, .int .i64 0, .int .i64 0, .int .u64 0, .slice none 0 0], .int .i64 E]) (by simp [results, Try.results38, go_sem, z0, z1, z2, z3, z4, z5]) rfl (accP_no (by first | decide | assumption) ?_)
        repeat (first | with_reducible refine Below.setCell ?_ (by dsimp only; omega) _ | with_reducible refine Below.drew ?_)
        exact hB0
  · have b0 := bne_yes hev
    obtain rfl : E = 2 := by rw [HE.out]; (try rw [b2]); simp [accB, mayS, hev]
    have HR := Lib.hid ((((((hR.set_ 0 (.int .i64 0)).set_ 1 (.int .i64 0)).set_ 2 (.int .i64 0)).set_ 3 (.int .i64 0)).set_ 4 (.int .u64 0)).set_ 5 (.slice none 0 0))
    have f := hR.frozen
    have a0 := (hR.cell 0).trans (show _ = some (Value.int .i64 0) from rfl)
    have a1 := (hR.cell 1).trans (show _ = some (Value.int .i64 0) from rfl)
    have a2 := (hR.cell 2).trans (show _ = some (Value.int .i64 0) from rfl)
    have a3 := (hR.cell 3).trans (show _ = some (Value.int .i64 0) from rfl)
    have a4 := (hR.cell 4).trans (show _ = some (Value.int .u64 0) from rfl)
    have a5 := (hR.cell 5).trans (show _ = some (Value.slice none 0 0) from rfl)
    go_wp2_with fail
    have hRR := HR.out
    have z0 := (hRR.cell 0).trans (show _ = some (Value.int .i64 0) from rfl)
    have z1 := (hRR.cell 1).trans (show _ = some (Value.int .i64 0) from rfl)
    have z2 := (hRR.cell 2).trans (show _ = some (Value.int .i64 0) from rfl)
    have z3 := (hRR.cell 3).trans (show _ = some (Value.int .i64 0) from rfl)
    have z4 := (hRR.cell 4).trans (show _ = some (Value.int .u64 0) from rfl)
    have z5 := (hRR.cell 5).trans (show _ = some (Value.slice none 0 0) from rfl)
    refine bodyPost_ret (v := .tuple #[.agg #[.int .i64 0, .int .i64 0, .int .i64 0, .int .i64 0, .int .u64 0, .slice none 0 0], .int .i64 2]) (by simp [results, Try.results38, go_sem, z0, z1, z2, z3, z4, z5]) rfl (accP_no (by first | decide | assumption) ?_)
    repeat (first | with_reducible refine Below.setCell ?_ (by dsimp only; omega) _ | with_reducible refine Below.drew ?_)
    exact hB0
end Go.Proofs.Ytjjkdmngmopjbaa

