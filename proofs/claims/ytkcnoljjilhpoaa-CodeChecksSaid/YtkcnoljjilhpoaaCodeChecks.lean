/- C1, C2: whether code may run, told by package code and by the reference, is one answer, whatever the code; and so is the cost of any instruction. -/
import Derived.Test.YtkcnoljjilhpoaaProg
import Derived.Test.YtkcnoljjilhpoaaRows
import Derived.Test.YtkcnoljjilhpoaaFrame
import Derived.Test.YtkcnoljjilhpoaaCode0
import Derived.Test.YtkcnoljjilhpoaaCode9
import Derived.Test.YtkcnoljjilhpoaaCode10
import Derived.Test.YtkcnoljjilhpoaaOpenC
import Derived.Deep.QuietTactic
import Derived.BigQuiet
namespace Go.Proofs.Ytkcnoljjilhpoaa
open Go.RowKit
def WideB (w : World) (e : Ending) (w' : World) : Prop := ∃ b : Bool, e = .returned (.bool b) ∧ Below w.heap.size w w'
set_option maxRecDepth 100000 in
set_option maxHeartbeats 2000000 in
theorem wide_any (ps : List Pce) (ns : List (List UInt8)) (A A' : Option Addr) (c c' B : Nat) (w : World) (hP : PcsR w B A ps) (hS : Strs w B A' ns) (hB : B ≤ w.heap.size) (hps : ps.length ≤ maxLen) (hns : ns.length ≤ maxLen) (hbl : ∀ p ∈ ps, p.body.length ≤ maxLen ∧ p.name.length ≤ maxLen) (hsl : ∀ s ∈ ns, s.length ≤ maxLen) :
    Calls Try.prog 12 #[codV A ps.length c A' ns.length c'] w (WideB w) := by
  unfold maxLen at *
  unfold codV
  obtain ⟨X, hX⟩ : ∃ X, IntKind.i64.wrap ((ps.length : Int) + (ns.length : Int)) = X := ⟨_, rfl⟩
  obtain ⟨X', hX'⟩ : ∃ X, wrap64 ((ps.length : Int) + (ns.length : Int)) = X := ⟨_, rfl⟩
  go_enter Try.func12, Try.ntmps12
  go_wp2_with fail
  go_loopw [3, 4] (fun n i wr => ∃ (j : Nat) (m : Int), i = .int .i64 (j : Int) ∧ n = .int .i64 m ∧ j ≤ ps.length ∧ Blk wr w.heap.size 25 #[.slice A ps.length c, .slice A' ns.length c'] ∧ Below w.heap.size w wr) (fun _ i _ => ps.length - (intOf i).toNat)
  case atStart => exact ⟨0, _, rfl, rfl, by omega, Blk.new _ _ _, (Below.refl _ _).alloc (Nat.le_refl _) _⟩
  case round =>
    clear hX hX'
    obtain ⟨j, m, rfl, rfl, hj, hC, hb⟩ := hrel
    have hz := hb.size
    have hc0 := (hC.cell 0).trans (show _ = some (Value.slice A ps.length c) from rfl)
    have hc1 := (hC.cell 1).trans (show _ = some (Value.slice A' ns.length c') from rfl)
    have hcA := fun o => hC.cell_a 0 (Value.slice A ps.length c) rfl o
    have hcB := fun o => hC.cell_a 1 (Value.slice A' ns.length c') rfl o
    by_cases hlt : j < ps.length
    · have hji : (j : Int) < (ps.length : Int) := by omega
      by_cases hm : m ≤ 65536
      · have hm0 : decide (m ≤ 65536) = true := decide_eq_true hm
        clear hS hsl
        obtain ⟨pb, off, Ab, cb, rfl, hbB, k0, k1, k2, k3, k4, hI⟩ := (hP.below (hb.mono hB)) j hlt
        obtain ⟨hbp, hnp⟩ := hbl _ (List.getElem_mem hlt)
        have r0 : wr.drew.cell? ⟨w.heap.size, 0, none⟩ = some (Value.slice (some ⟨pb, off, none⟩) ps.length c) := hc0
        generalize ps[j] = p at *
        obtain ⟨nm, opn, prm, loc, body⟩ := p
        simp only at k0 k1 k2 k3 k4 hbp hnp
        clear hI hP hbl
        have r1 : wr.drew.cell? ⟨pb, off + j * 5, none⟩ = some (.string (bs nm)) := k0
        have r2 : wr.drew.cell? ⟨pb, off + j * 5 + 4, none⟩ = some (.slice Ab body.length cb) := k4
        obtain ⟨Y, hY⟩ : ∃ Y, IntKind.i64.wrap (m + (body.length : Int)) = Y := ⟨_, rfl⟩
        obtain ⟨Y', hY'⟩ : ∃ Y, wrap64 (m + (body.length : Int)) = Y := ⟨_, rfl⟩
        have hYY : Y = Y' := by rw [← hY, ← hY', IntWalk.i64_left]
        obtain ⟨Z, hZ⟩ : ∃ Z, IntKind.i64.wrap (Y + (nm.length : Int)) = Z := ⟨_, rfl⟩
        obtain ⟨Z', hZ'⟩ : ∃ Z, wrap64 (Y + (nm.length : Int)) = Z := ⟨_, rfl⟩
        subst hYY
        go_wp2_with fail
        go_quiet (fail)
        go_wp2_with fail
        go_roundw
        case rel => exact ⟨j + 1, _, by go_num, rfl, by omega, by first | exact hC.drewN _ | exact hC.drew | exact hC, by first | exact hb.drewN _ | exact hb.drew | exact hb⟩
        case measure => simp [intOf]; omega
      · have hm0 : decide (m ≤ 65536) = false := decide_eq_false hm
        clear hP hbl
        go_wp2_with fail
        go_loopw [3, 5] (fun n i wr => ∃ (j : Nat) (m : Int), i = .int .i64 (j : Int) ∧ n = .int .i64 m ∧ j ≤ ns.length ∧ Blk wr w.heap.size 25 #[.slice A ps.length c, .slice A' ns.length c'] ∧ Below w.heap.size w wr) (fun _ i _ => ns.length - (intOf i).toNat)
        case atStart => exact ⟨0, _, rfl, rfl, by omega, hC, hb⟩
        case round =>
          clear hc0 hc1 hcA hcB hC hb hz hj
          obtain ⟨j, m, rfl, rfl, hj, hC, hb⟩ := hrel
          have hz := hb.size
          have hc1 := (hC.cell 1).trans (show _ = some (Value.slice A' ns.length c') from rfl)
          have hcB := fun o => hC.cell_a 1 (Value.slice A' ns.length c') rfl o
          by_cases hlt : j < ns.length
          · have hji : (j : Int) < (ns.length : Int) := by omega
            by_cases hm : m ≤ 65536
            · have hm0 : decide (m ≤ 65536) = true := decide_eq_true hm
              obtain ⟨b', off', rfl, hbB', k0⟩ := Strs.at_ (Rd.below hS (hb.mono hB)) hlt
              have hsp := hsl _ (List.getElem_mem hlt)
              generalize ns[j] = s at *
              obtain ⟨Y, hY⟩ : ∃ Y, IntKind.i64.wrap (m + (s.length : Int)) = Y := ⟨_, rfl⟩
              obtain ⟨Y', hY'⟩ : ∃ Y, wrap64 (m + (s.length : Int)) = Y := ⟨_, rfl⟩
              go_wp2_with fail
              go_roundw
              case rel => exact ⟨j + 1, _, by go_num, rfl, by omega, by first | exact hC.drewN _ | exact hC.drew | exact hC, by first | exact hb.drewN _ | exact hb.drew | exact hb⟩
              case measure => simp [intOf]; omega
            · have hm0 : decide (m ≤ 65536) = false := decide_eq_false hm
              go_wp2_with fail
              go_ret
              exact ⟨_, rfl, hb⟩
          · have hji : ¬ (j : Int) < (ns.length : Int) := by omega
            go_wp2_with fail
            go_ret
            exact ⟨_, rfl, hb⟩
    · have hji : ¬ (j : Int) < (ps.length : Int) := by omega
      clear hP hbl
      go_wp2_with fail
      go_loopw [3, 5] (fun n i wr => ∃ (j : Nat) (m : Int), i = .int .i64 (j : Int) ∧ n = .int .i64 m ∧ j ≤ ns.length ∧ Blk wr w.heap.size 25 #[.slice A ps.length c, .slice A' ns.length c'] ∧ Below w.heap.size w wr) (fun _ i _ => ns.length - (intOf i).toNat)
      case atStart => exact ⟨0, _, rfl, rfl, by omega, hC, hb⟩
      case round =>
        clear hc0 hc1 hcA hcB hC hb hz hj
        obtain ⟨j, m, rfl, rfl, hj, hC, hb⟩ := hrel
        have hz := hb.size
        have hc1 := (hC.cell 1).trans (show _ = some (Value.slice A' ns.length c') from rfl)
        have hcB := fun o => hC.cell_a 1 (Value.slice A' ns.length c') rfl o
        by_cases hlt : j < ns.length
        · have hji : (j : Int) < (ns.length : Int) := by omega
          by_cases hm : m ≤ 65536
          · have hm0 : decide (m ≤ 65536) = true := decide_eq_true hm
            obtain ⟨b', off', rfl, hbB', k0⟩ := Strs.at_ (Rd.below hS (hb.mono hB)) hlt
            have hsp := hsl _ (List.getElem_mem hlt)
            generalize ns[j] = s at *
            obtain ⟨Y, hY⟩ : ∃ Y, IntKind.i64.wrap (m + (s.length : Int)) = Y := ⟨_, rfl⟩
            obtain ⟨Y', hY'⟩ : ∃ Y, wrap64 (m + (s.length : Int)) = Y := ⟨_, rfl⟩
            go_wp2_with fail
            go_roundw
            case rel => exact ⟨j + 1, _, by go_num, rfl, by omega, by first | exact hC.drewN _ | exact hC.drew | exact hC, by first | exact hb.drewN _ | exact hb.drew | exact hb⟩
            case measure => simp [intOf]; omega
          · have hm0 : decide (m ≤ 65536) = false := decide_eq_false hm
            go_wp2_with fail
            go_ret
            exact ⟨_, rfl, hb⟩
        · have hji : ¬ (j : Int) < (ns.length : Int) := by omega
          go_wp2_with fail
          go_ret
          exact ⟨_, rfl, hb⟩
set_option maxRecDepth 100000 in
set_option maxHeartbeats 2000000 in
theorem codeChecks_walk (x : CodD) (op : Int) (w : World) (hx : x.held w w.heap.size) :
    Calls Try.prog 3 #[codV x.A x.ps.length x.c x.A' x.ns.length x.c', .int .i64 op] w fun e w' => e = .returned (.bool true) ∧ Below w.heap.size w w' := by
  obtain ⟨ps, A, c, ns, A', c'⟩ := x
  obtain ⟨hP, hps, hbl, hS, hns, hsl⟩ := hx
  dsimp only at hP hps hbl hS hns hsl
  dsimp only
  obtain ⟨fl, hfl⟩ := flow_fun ps
  have h1 := fun W (hW : Below w.heap.size w W) => wide_any ps ns A A' c c' w.heap.size W (hP.below hW) (hS.below hW) hW.size hps hns hbl hsl
  have h2 := fun W (hW : Below w.heap.size w W) => codeCheck_any fl ps ns.length A A' c c' w.heap.size W (hP.below hW) hW.size hfl hps (fun p hp => (hbl p hp).1)
  have h3 := fun W (hW : Below w.heap.size w W) => rcodeCheck_any fl ps ns.length A A' c c' w.heap.size W (hP.below hW) hW.size hfl hps (fun p hp => (hbl p hp).1) hns
  have h4 := fun W => cost_any op W
  have h5 := fun W => rcost_any op W
  clear hP hS hbl hsl hfl
  unfold codV at h1 h2 h3
  unfold codV
  generalize chkS fl ps ns.length = X at *
  generalize costS op = Y at *
  have hc0 : Below w.heap.size w (w.alloc (.cells #[.slice A ps.length c, .slice A' ns.length c'] 25)) := (Below.refl _ _).alloc (Nat.le_refl _) _
  have H1 := Lib.hid h1
  have H2 := Lib.hid h2
  have H3 := Lib.hid h3
  have H4 := Lib.hid h4
  have H5 := Lib.hid h5
  clear h1 h2 h3 h4 h5
  have hX : Blk (w.alloc (.cells #[.slice A ps.length c, .slice A' ns.length c'] 25)) w.heap.size 25 #[.slice A ps.length c, .slice A' ns.length c'] := Blk.new _ _ _
  go_enter Try.func3, Try.ntmps3
  go_wp2_with fail
  with_reducible refine (H1.out _ hc0).mono ?_
  rintro e w1 ⟨b, rfl, hb1⟩
  have hX1 := hX.below hb1 hX.lt
  have k0 := (hX1.cell 0).trans (show _ = some (Value.slice A ps.length c) from rfl)
  have k1 := (hX1.cell 1).trans (show _ = some (Value.slice A' ns.length c') from rfl)
  have hc1 := hc0.trans (hb1.mono hc0.size)
  clear hX
  cases b
  · go_wp2_with fail
    with_reducible refine (H2.out w1 hc1).mono ?_
    rintro e w2 ⟨rfl, hb2⟩
    have hc2 := hc1.trans (hb2.mono hc1.size)
    have hX2 := hX1.below hb2 hX1.lt
    have k0 := (hX2.cell 0).trans (show _ = some (Value.slice A ps.length c) from rfl)
    have k1 := (hX2.cell 1).trans (show _ = some (Value.slice A' ns.length c') from rfl)
    go_wp2_with fail
    with_reducible refine (H3.out w2 hc2).mono ?_
    rintro e w3 ⟨rfl, hb3⟩
    have hc3 := hc2.trans (hb3.mono hc2.size)
    go_wp2_with fail
    with_reducible refine (H4.out w3).mono ?_
    rintro e w4 ⟨rfl, hb4⟩
    have hc4 := hc3.trans (hb4.mono hc3.size)
    go_wp2_with fail
    with_reducible refine (H5.out w4).mono ?_
    rintro e w5 ⟨rfl, hb5⟩
    have hc5 := hc4.trans (hb5.mono hc4.size)
    go_wp2_with fail
    go_ret
    exact ⟨rfl, hc5⟩
  · go_wp2_with fail
    go_ret
    exact ⟨rfl, hc1⟩

namespace codeChecks
open Go.ChangeShapes Go.WideShapes Go.ChangeAt Go.RowKit
set_option linter.unusedVariables false
set_option maxRecDepth 100000 in
theorem walk {H : Type} (enc : TypeId × Value → H) : LawWalk enc Try.prog Try.f3 3 := by
  intro W args ds p hA hval hlt hfz
  rw [Try.params3] at hA hval
  obtain ⟨v0, vs0, d0, ds0, p0, q0, hargs, rfl, rfl, h0, r0⟩ := trodAll_cons hA
  obtain ⟨v1, vs1, d1, ds1, p1, q1, rfl, rfl, rfl, h1, r1⟩ := trodAll_cons r0
  obtain ⟨rfl, rfl, rfl⟩ := trodAll_nil r1
  obtain rfl : args = #[v0, v1] := by cases args; simp_all
  obtain ⟨x0, rfl, hx0⟩ := open_code (hval 0 _ v0 rfl rfl) h0
  obtain ⟨a1, rfl, _, _, wa1⟩ := open_int Try.underlying3 (hval 1 _ v1 rfl rfl) h1
  exact codeChecks_walk x0 a1 W hx0
set_option maxRecDepth 100000 in
theorem shape (H : Type) (ds : List (DataW H)) (h : ds.length = (Try.f3).params.toList.length) : Rows.codeChecksSpec.fn H (ds ++ []) = { results := [DataW.lit (Lit.bool true)], args := ds } := match ds, h with | [_, _], _ => rfl
set_option maxRecDepth 100000 in
theorem wit (os : Os) (H : Type) (enc : TypeId × Value → H) : ∃ (w : World) (tape : Tape) (i : Input), w.os = os ∧ (w.forCall tape i).Shaped Try.prog ∧ i.vars = [] ∧ Input.okWide Try.prog (w.forCall tape i) .any w.heap.size 3 i ∧ ChangeSpec.pre6 enc Try.prog Try.f3 Rows.codeChecksSpec [] false (w.forCall tape i).memory i.args ∧ ({ } : Assume).holds Try.prog (lone (Frame.enter Try.prog 3 i.args .normal) [] (w.forCall tape i)) :=
  ChangeSpec.witness6 (enc := enc) (C := Try.checked) false ⟨#[], #[.agg #[.slice none 0 0, .slice none 0 0], .int .i64 0], []⟩ 8 (by kernel_rfl) (by kernel_rfl) (by kernel_rfl) (by kernel_rfl)
set_option maxRecDepth 100000 in
theorem lifted (os : Os) (started : os.Started) (H : Type) (enc : TypeId × Value → H) : ReturnsInHanded {} Try.checked os 3 .any (ChangeSpec.pre6 enc Try.prog Try.f3 Rows.codeChecksSpec [] false) (ChangeSpec.post enc Try.prog Try.f3 Rows.codeChecksSpec false true false false) :=
  law_lift (C := Try.checked) (s := Rows.codeChecksSpec) (by kernel_rfl) started (by kernel_rfl) Try.func3 (by kernel_rfl) (by kernel_rfl) rfl rfl Try.underlying4 (shape H) (wit os H enc) (walk enc)
set_option maxRecDepth 100000 in
theorem funcAt : Try.pinned.checked.prog.funcNamed Rows.codeChecksRow.func = some 3 := by kernel_rfl
set_option maxRecDepth 100000 in
theorem closed : joinedFacts Try.pinned.checked.prog 3 Try.f3 Rows.codeChecksSpec Rows.codeChecksRow = true := by kernel_rfl
set_option maxRecDepth 100000 in
theorem over : Rows.codeChecksRow.holds Try.pinned (OpenSpec.ofChange Rows.codeChecksSpec) :=
  OpenClaim.holds_of_wide 3 Try.f3 rfl rfl rfl rfl rfl rfl rfl ⟨rfl, rfl, rfl, rfl, rfl⟩ rfl rfl rfl rfl rfl funcAt Try.func3 closed
    (of_decide_eq_true (by kernel_rfl)) (by unfold Func.isWrapper; first | (rw [if_pos (by decide +kernel)]; kernel_rfl) | (rw [if_neg (by decide +kernel)]; exact ⟨rfl, rfl⟩))
    (fun os started H enc _ => lifted os started H enc)
end codeChecks
/-- the statement -/
theorem codeChecks_holds : Rows.CodeChecksSaid := codeChecks.over
#print axioms codeChecks_holds
end Go.Proofs.Ytkcnoljjilhpoaa
