/- Of the texts Li1. -/
import Derived.Test.YtjjkdmngmopjbaaProg
import Derived.Test.YtjjkdmngmopjbaaG26
import Derived.Test.YtjjkdmngmopjbaaG28
import Derived.Test.YtjjkdmngmopjbaaG25
import Derived.Test.YtjjkdmngmopjbaaG22
set_option linter.unusedSimpArgs false
set_option linter.unusedVariables false
namespace Go.Proofs.Ytjjkdmngmopjbaa
open Go.RowKit
/-- is anything written wrongly? -/
def mayS (ev eh ec eb : Int) (f1 f2 : Bool) : Int := if ev ≠ 0 ∨ f1 = false then 2 else if eh ≠ 0 then eh else if ec ≠ 0 then ec else if eb ≠ 0 then eb else if f2 = false then 2 else 0
/-- the errnos and the fits that it hangs on -/
def evS (v : ViewD) : Int := (Out.empty.view v).re
def ehS (h : HeaderD) : Int := (Out.empty.header h).re
def ecS (c : CertD) : Int := (Out.empty.cert c).re
def ebS (l : List Seat) : Int := (Out.empty.bench l).re
theorem bne_yes {a b : Int} (h : a ≠ b) : (a != b) = true := bne_iff_ne.2 h
theorem bne_no {a b : Int} (h : a = b) : (a != b) = false := by rw [h]; simp
theorem seats_of {w : World} {B : Nat} {A : Option Addr} {l : List Seat} (h : SeatsL w B A l) : Seats w B A l := h
set_option maxRecDepth 100000 in
set_option maxHeartbeats 1000000 in
theorem may_any (vc vw ve vh vs : Int) (vl : List Seat) (vA : Option Addr) (vk : Nat) (hc hh hp ht hg hs hr hb ho : Int) (ch cr cs : Int) (chas : Bool) (cb : Int) (fl : List Int) (fA : Option Addr) (fk : Nat) (sl : List Seat) (sA : Option Addr) (sk : Nat) (B : Nat) (w : World)
    (hv : ViewD.ok ⟨vc, vw, ve, vh, vs, vl, vA, vk⟩) (hvl : SeatsL w B vA vl) (hh0 : HeaderD.ok ⟨hc, hh, hp, ht, hg, hs, hr, hb, ho⟩) (hc0 : CertD.held w B ⟨ch, cr, cs, chas, cb, fl, fA, fk⟩) (hsl : SeatsL w B sA sl) (hB : B ≤ w.heap.size) (hvn : vl.length ≤ 65536) (hsn : sl.length ≤ 65536) (hcm : certM ⟨ch, cr, cs, chas, cb, fl, fA, fk⟩ ≤ 10000000) :
    Calls Try.prog 77 #[.agg #[.int .i64 vc, .int .i64 vw, .int .i64 ve, .int .i64 vh, .int .u64 vs, .slice vA vl.length vk], .agg #[.int .i64 hc, .int .i64 hh, .int .u64 hp, .int .u64 ht, .int .u64 hg, .int .u64 hs, .int .u64 hr, .int .u64 hb, .int .i64 ho, .int .i64 ch, .int .i64 cr, .int .i64 cs, .bool chas, .int .u64 cb, .slice fA fl.length fk, .slice sA sl.length sk]] w fun e w' => e = .returned (.int .i64 (mayS (evS ⟨vc, vw, ve, vh, vs, vl, vA, vk⟩) (ehS ⟨hc, hh, hp, ht, hg, hs, hr, hb, ho⟩) (ecS ⟨ch, cr, cs, chas, cb, fl, fA, fk⟩) (ebS sl) (fits vl) (fits sl))) ∧ Below w.heap.size w w' := by
  have hP1 : ∀ W, SeatsL W B vA vl → B ≤ W.heap.size → Calls _ _ #[.agg #[.int .i64 vc, .int .i64 vw, .int .i64 ve, .int .i64 vh, .int .u64 vs, .slice vA vl.length vk]] W _ := fun W h hb => put_view ⟨vc, vw, ve, vh, vs, vl, vA, vk⟩ hv B W h hb hvn
  have hP2 : ∀ W, Seats W B vA vl → B ≤ W.heap.size → Calls _ _ _ W _ := fun W h hb => fits_any vl vA vk B W h hb (by unfold maxLen; omega)
  have hP3 : ∀ W, Calls _ _ #[.agg #[.int .i64 hc, .int .i64 hh, .int .u64 hp, .int .u64 ht, .int .u64 hg, .int .u64 hs, .int .u64 hr, .int .u64 hb, .int .i64 ho]] W _ := fun W => put_header ⟨hc, hh, hp, ht, hg, hs, hr, hb, ho⟩ hh0 W
  have hP4 : ∀ W, CertD.held W B ⟨ch, cr, cs, chas, cb, fl, fA, fk⟩ → B ≤ W.heap.size → Calls _ _ #[.agg #[.int .i64 ch, .int .i64 cr, .int .i64 cs, .bool chas, .int .u64 cb, .slice fA fl.length fk]] W _ := fun W h hb => put_cert ⟨ch, cr, cs, chas, cb, fl, fA, fk⟩ B W h hb hcm
  have hP5 : ∀ W, SeatsL W B sA sl → B ≤ W.heap.size → Calls _ _ _ W _ := fun W h hb => put_bench sl sA sk B W h hb hsn
  have hP6 : ∀ W, Seats W B sA sl → B ≤ W.heap.size → Calls _ _ _ W _ := fun W h hb => fits_any sl sA sk B W h hb (by unfold maxLen; omega)
  change ∀ W, SeatsL W B vA vl → B ≤ W.heap.size → Calls _ _ _ _ (fun e w' => e = .returned (.tuple #[_, .int .i64 (evS ⟨vc, vw, ve, vh, vs, vl, vA, vk⟩)]) ∧ _) at hP1
  change ∀ W, Calls _ _ _ _ (fun e w' => e = .returned (.tuple #[_, .int .i64 (ehS ⟨hc, hh, hp, ht, hg, hs, hr, hb, ho⟩)]) ∧ _) at hP3
  change ∀ W, CertD.held W B ⟨ch, cr, cs, chas, cb, fl, fA, fk⟩ → B ≤ W.heap.size → Calls _ _ _ _ (fun e w' => e = .returned (.tuple #[_, .int .i64 (ecS ⟨ch, cr, cs, chas, cb, fl, fA, fk⟩)]) ∧ _) at hP4
  change ∀ W, SeatsL W B sA sl → B ≤ W.heap.size → Calls _ _ _ _ (fun e w' => e = .returned (.tuple #[_, .int .i64 (ebS sl)]) ∧ _) at hP5
  generalize evS ⟨vc, vw, ve, vh, vs, vl, vA, vk⟩ = ev at *
  generalize ehS ⟨hc, hh, hp, ht, hg, hs, hr, hb, ho⟩ = eh at *
  generalize ecS ⟨ch, cr, cs, chas, cb, fl, fA, fk⟩ = ec at *
  generalize ebS sl = eb at *
  generalize fits vl = f1 at *
  generalize fits sl = f2 at *
  generalize (Out.empty.view ⟨vc, vw, ve, vh, vs, vl, vA, vk⟩).rs = r1 at *
  generalize (Out.empty.header ⟨hc, hh, hp, ht, hg, hs, hr, hb, ho⟩).rs = r2 at *
  generalize (Out.empty.cert ⟨ch, cr, cs, chas, cb, fl, fA, fk⟩).rs = r3 at *
  generalize (Out.empty.bench sl).rs = r4 at *
  obtain ⟨M, hM⟩ : ∃ M, M = mayS ev eh ec eb f1 f2 := ⟨_, rfl⟩
  rw [← hM]
  have HM := Lib.hid hM
  clear hM
  have hX : Blk ((w.alloc (.cells #[.int .i64 vc, .int .i64 vw, .int .i64 ve, .int .i64 vh, .int .u64 vs, .slice vA vl.length vk] 82)).alloc (.cells #[.int .i64 hc, .int .i64 hh, .int .u64 hp, .int .u64 ht, .int .u64 hg, .int .u64 hs, .int .u64 hr, .int .u64 hb, .int .i64 ho, .int .i64 ch, .int .i64 cr, .int .i64 cs, .bool chas, .int .u64 cb, .slice fA fl.length fk, .slice sA sl.length sk] 85)) w.heap.size 82 #[.int .i64 vc, .int .i64 vw, .int .i64 ve, .int .i64 vh, .int .u64 vs, .slice vA vl.length vk] := (Blk.new w 82 #[.int .i64 vc, .int .i64 vw, .int .i64 ve, .int .i64 vh, .int .u64 vs, .slice vA vl.length vk]).alloc _
  have hY : Blk ((w.alloc (.cells #[.int .i64 vc, .int .i64 vw, .int .i64 ve, .int .i64 vh, .int .u64 vs, .slice vA vl.length vk] 82)).alloc (.cells #[.int .i64 hc, .int .i64 hh, .int .u64 hp, .int .u64 ht, .int .u64 hg, .int .u64 hs, .int .u64 hr, .int .u64 hb, .int .i64 ho, .int .i64 ch, .int .i64 cr, .int .i64 cs, .bool chas, .int .u64 cb, .slice fA fl.length fk, .slice sA sl.length sk] 85)) (w.heap.size + 1) 85 #[.int .i64 hc, .int .i64 hh, .int .u64 hp, .int .u64 ht, .int .u64 hg, .int .u64 hs, .int .u64 hr, .int .u64 hb, .int .i64 ho, .int .i64 ch, .int .i64 cr, .int .i64 cs, .bool chas, .int .u64 cb, .slice fA fl.length fk, .slice sA sl.length sk] := by
    have := Blk.new (w.alloc (.cells #[.int .i64 vc, .int .i64 vw, .int .i64 ve, .int .i64 vh, .int .u64 vs, .slice vA vl.length vk] 82)) 85 #[.int .i64 hc, .int .i64 hh, .int .u64 hp, .int .u64 ht, .int .u64 hg, .int .u64 hs, .int .u64 hr, .int .u64 hb, .int .i64 ho, .int .i64 ch, .int .i64 cr, .int .i64 cs, .bool chas, .int .u64 cb, .slice fA fl.length fk, .slice sA sl.length sk]
    simpa using this
  have hB0 : Below w.heap.size w ((w.alloc (.cells #[.int .i64 vc, .int .i64 vw, .int .i64 ve, .int .i64 vh, .int .u64 vs, .slice vA vl.length vk] 82)).alloc (.cells #[.int .i64 hc, .int .i64 hh, .int .u64 hp, .int .u64 ht, .int .u64 hg, .int .u64 hs, .int .u64 hr, .int .u64 hb, .int .i64 ho, .int .i64 ch, .int .i64 cr, .int .i64 cs, .bool chas, .int .u64 cb, .slice fA fl.length fk, .slice sA sl.length sk] 85)) := ((Below.refl _ _).alloc (Nat.le_refl _) _).alloc (by simp) _
  go_enter Try.func77, Try.ntmps77
  go_upto_region 1 with fail
  generalize ((w.alloc (.cells #[.int .i64 vc, .int .i64 vw, .int .i64 ve, .int .i64 vh, .int .u64 vs, .slice vA vl.length vk] 82)).alloc (.cells #[.int .i64 hc, .int .i64 hh, .int .u64 hp, .int .u64 ht, .int .u64 hg, .int .u64 hs, .int .u64 hr, .int .u64 hb, .int .i64 ho, .int .i64 ch, .int .i64 cr, .int .i64 cs, .bool chas, .int .u64 cb, .slice fA fl.length fk, .slice sA sl.length sk] 85)) = w0 at *
  have x0 := (hX.cell 0).trans (show _ = some (Value.int .i64 vc) from rfl)
  have x1 := (hX.cell 1).trans (show _ = some (Value.int .i64 vw) from rfl)
  have x2 := (hX.cell 2).trans (show _ = some (Value.int .i64 ve) from rfl)
  have x3 := (hX.cell 3).trans (show _ = some (Value.int .i64 vh) from rfl)
  have x4 := (hX.cell 4).trans (show _ = some (Value.int .u64 vs) from rfl)
  have x5 := (hX.cell 5).trans (show _ = some (Value.slice vA vl.length vk) from rfl)
  go_wp2_with fail
  refine (hP1 _ (Rd.below hvl (hB0.mono hB)) (by have := hB0.size; omega)).mono ?_
  rintro e wq ⟨rfl, hq⟩
  clear x0 x1 x2 x3 x4 x5 hP1
  have hX1 := hX.below hq hX.lt
  have hY1 := hY.below hq hY.lt
  have hB1 := hB0.trans (hq.mono hB0.size)
  clear hX hY hB0 hq
  have hX := hX1
  have hY := hY1
  have hB0 := hB1
  clear hX1 hY1 hB1
  by_cases hev : ev = 0
  · have b1 := bne_no hev
    have x5 := (hX.cell 5).trans (show _ = some (Value.slice vA vl.length vk) from rfl)
    go_wp2_with fail
    refine (hP2 _ (Rd.below hvl (hB0.mono hB)) (by have := hB0.size; omega)).mono ?_
    rintro e wq ⟨rfl, hq⟩
    clear x5 hP2
    have hX1 := hX.below hq hX.lt
    have hY1 := hY.below hq hY.lt
    have hB1 := hB0.trans (hq.mono hB0.size)
    clear hX hY hB0 hq
    have hX := hX1
    have hY := hY1
    have hB0 := hB1
    clear hX1 hY1 hB1
    cases f1 with
    | false =>
      go_wp2_with fail
      go_ret
      exact ⟨ret_int (by rw [HM.out]; simp [mayS, hev]), hB0⟩
    | true =>
      have y0 := (hY.cell 0).trans (show _ = some (Value.int .i64 hc) from rfl)
      have y1 := (hY.cell 1).trans (show _ = some (Value.int .i64 hh) from rfl)
      have y2 := (hY.cell 2).trans (show _ = some (Value.int .u64 hp) from rfl)
      have y3 := (hY.cell 3).trans (show _ = some (Value.int .u64 ht) from rfl)
      have y4 := (hY.cell 4).trans (show _ = some (Value.int .u64 hg) from rfl)
      have y5 := (hY.cell 5).trans (show _ = some (Value.int .u64 hs) from rfl)
      have y6 := (hY.cell 6).trans (show _ = some (Value.int .u64 hr) from rfl)
      have y7 := (hY.cell 7).trans (show _ = some (Value.int .u64 hb) from rfl)
      have y8 := (hY.cell 8).trans (show _ = some (Value.int .i64 ho) from rfl)
      go_wp2_with fail
      refine (hP3 _).mono ?_
      rintro e wq ⟨rfl, hq⟩
      clear y0 y1 y2 y3 y4 y5 y6 y7 y8 hP3
      have hX1 := hX.below hq hX.lt
      have hY1 := hY.below hq hY.lt
      have hB1 := hB0.trans (hq.mono hB0.size)
      clear hX hY hB0 hq
      have hX := hX1
      have hY := hY1
      have hB0 := hB1
      clear hX1 hY1 hB1
      by_cases heh : eh = 0
      · have b2 := bne_no heh
        have y9 := (hY.cell 9).trans (show _ = some (Value.int .i64 ch) from rfl)
        have y10 := (hY.cell 10).trans (show _ = some (Value.int .i64 cr) from rfl)
        have y11 := (hY.cell 11).trans (show _ = some (Value.int .i64 cs) from rfl)
        have y12 := (hY.cell 12).trans (show _ = some (Value.bool chas) from rfl)
        have y13 := (hY.cell 13).trans (show _ = some (Value.int .u64 cb) from rfl)
        have y14 := (hY.cell 14).trans (show _ = some (Value.slice fA fl.length fk) from rfl)
        go_wp2_with fail
        refine (hP4 _ (hc0.below (hB0.mono hB)) (by have := hB0.size; omega)).mono ?_
        rintro e wq ⟨rfl, hq⟩
        clear y9 y10 y11 y12 y13 y14 hP4
        have hX1 := hX.below hq hX.lt
        have hY1 := hY.below hq hY.lt
        have hB1 := hB0.trans (hq.mono hB0.size)
        clear hX hY hB0 hq
        have hX := hX1
        have hY := hY1
        have hB0 := hB1
        clear hX1 hY1 hB1
        by_cases hec : ec = 0
        · have b3 := bne_no hec
          have y15 := (hY.cell 15).trans (show _ = some (Value.slice sA sl.length sk) from rfl)
          go_wp2_with fail
          refine (hP5 _ (Rd.below hsl (hB0.mono hB)) (by have := hB0.size; omega)).mono ?_
          rintro e wq ⟨rfl, hq⟩
          clear y15 hP5
          have hX1 := hX.below hq hX.lt
          have hY1 := hY.below hq hY.lt
          have hB1 := hB0.trans (hq.mono hB0.size)
          clear hX hY hB0 hq
          have hX := hX1
          have hY := hY1
          have hB0 := hB1
          clear hX1 hY1 hB1
          by_cases heb : eb = 0
          · have b4 : (eb == 0) = true := beq_iff_eq.2 heb
            have y15 := (hY.cell 15).trans (show _ = some (Value.slice sA sl.length sk) from rfl)
            go_wp2_with fail
            refine (hP6 _ (Rd.below hsl (hB0.mono hB)) (by have := hB0.size; omega)).mono ?_
            rintro e wq ⟨rfl, hq⟩
            clear y15 hP6
            have hX1 := hX.below hq hX.lt
            have hY1 := hY.below hq hY.lt
            have hB1 := hB0.trans (hq.mono hB0.size)
            clear hX hY hB0 hq
            have hX := hX1
            have hY := hY1
            have hB0 := hB1
            clear hX1 hY1 hB1
            cases f2 with
            | false =>
              go_wp2_with fail
              go_ret
              exact ⟨ret_int (by rw [HM.out]; simp [mayS, hev, heh, hec, heb]), hB0⟩
            | true =>
              go_wp2_with fail
              go_ret
              exact ⟨ret_int (by rw [HM.out]; simp [mayS, hev, heh, hec, heb]), hB0⟩
          · have b4 : (eb == 0) = false := beq_eq_false_iff_ne.2 heb
            go_wp2_with fail
            go_ret
            exact ⟨ret_int (by rw [HM.out]; simp [mayS, hev, heh, hec, heb]), hB0⟩
        · have b3 := bne_yes hec
          go_wp2_with fail
          go_ret
          exact ⟨ret_int (by rw [HM.out]; simp [mayS, hev, heh, hec]), hB0⟩
      · have b2 := bne_yes heh
        go_wp2_with fail
        go_ret
        exact ⟨ret_int (by rw [HM.out]; simp [mayS, hev, heh]), hB0⟩
  · have b1 := bne_yes hev
    go_wp2_with fail
    go_ret
    exact ⟨ret_int (by rw [HM.out]; simp [mayS, hev]), hB0⟩
end Go.Proofs.Ytjjkdmngmopjbaa

