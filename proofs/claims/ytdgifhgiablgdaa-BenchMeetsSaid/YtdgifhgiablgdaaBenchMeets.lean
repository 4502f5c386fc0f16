/- The law BenchMeets: two quorums of a bench have more than a third of it in common. No condition. -/
import Derived.Test.YtdgifhgiablgdaaRows
import Derived.Test.YtdgifhgiablgdaaBenchP
import Derived.Test.YtdgifhgiablgdaaFrame
import Derived.Test.YtdgifhgiablgdaaOpenT
namespace Go.Proofs.Ytdgifhgiablgdaa
open Go.RowKit
theorem filter_snoc (a : List Int) (p : Int → Bool) (k : Nat) (hk : k < a.length) : (a.take (k + 1)).filter p = (a.take k).filter p ++ (if p a[k] then [a[k]] else []) := by
  rw [List.take_succ_eq_append_getElem hk, List.filter_append]
  congr 1
  by_cases h : p a[k] = true <;> simp [h]
theorem intInfo : (Try.prog.info? 3).map (fun i => (i.zero, i.size, i.bytes)) = some (some (.int .i64 0), 1, 8) := by kernel_rfl
theorem intCells_one (l : List Int) : ∀ u ∈ l.map (Value.int .i64), u.oneCell' = true := by
  intro u hu; simp at hu; obtain ⟨x, _, rfl⟩ := hu; rfl
set_option maxRecDepth 100000 in
set_option maxHeartbeats 1000000 in
theorem benchMeets_walk (l : List Seat) (a b : List Int) (A Aa Ab : Option Addr) (c ca cb : Nat) (w : World) (h : Seats w w.heap.size A l) (ha : Ints w w.heap.size Aa a) (hb : Ints w w.heap.size Ab b) (hwide : Wide l) :
    Calls Try.prog 4 #[.slice A l.length c, .slice Aa a.length ca, .slice Ab b.length cb] w fun e w' => e = .returned (.bool true) ∧ Below w.heap.size w w' := by
  obtain ⟨i0, hi0, hz0, hz1, hz2⟩ := info_parts intInfo
  by_cases hlen : l.length ≤ 4096 ∧ a.length ≤ 4096 ∧ b.length ≤ 4096
  · obtain ⟨hl, hla, hlb⟩ := hlen
    have g1 : decide ((4096 : Int) < (l.length : Int)) = false := by simp; omega
    have g2 : decide ((4096 : Int) < (a.length : Int)) = false := by simp; omega
    have g3 : decide ((4096 : Int) < (b.length : Int)) = false := by simp; omega
    have HB := seatedS_ok l
    go_enter Try.func4, Try.ntmps4
    go_wp2_with (first
      | (go_at_call 19; refine (seated_any l A c w.heap.size w h (Nat.le_refl _) hl hwide).mono ?_; rintro e w1 ⟨v1, rfl, hown1, hb1⟩
         obtain ⟨AX, cX, rfl⟩ := own_shape hown1))
    have hx7 := HB.most
    have hsz1 := hb1.size
    generalize seatedS l = x at *
    go_loopw [8, 9] (fun v i wr => ∃ k : Nat, k ≤ x.length ∧ i = .int .i64 k ∧ wr.ownsRow w1.heap.size 3 1 v k (((x.take k).map (·.who)).map (Value.int .i64)) ∧ Below w1.heap.size w1 wr) (fun _ i _ => x.length - (intOf i).toNat)
    case atStart => exact ⟨0, by omega, rfl, World.ownsRow_made (base := w1.heap.size) (e := 3) (size := 1) w1 #[] 0 (Nat.le_refl _) (by simp [maxLen]) (by simp), (Below.refl _ _).alloc (Nat.le_refl _) _⟩
    case round =>
      obtain ⟨k, hk, rfl, hown, hbr⟩ := hrel
      have hszr := hbr.size
      have hownX := own_below hown1 hbr
      by_cases hlt : k < x.length
      · obtain ⟨xb, xo, rfl, hbB, hc0, hc1⟩ := Seats.at_ (l := x) (Rd.of_own hownX) hlt
        have hki : (k : Int) < (x.length : Int) := by omega
        go_wp2_with (first
          | (at_builtin; refine wpList_append_any _ rfl (.tmp 37) (.tmp 43) 28 rfl w1.heap.size 3 i0 _ 1 8 Try.underlying28 hi0 hz0 hz1 hz2 rfl (by omega) _ k _ (by rfl) (hown.alloc _) (wr.heap.size + 1) _ 1 1 [.int .i64 x[k].who] (by rfl) (Rd.laid wr #[.int .i64 x[k].who] 3 1 1 rfl) (fun u hu => by simp at hu; subst hu; rfl) (by simp [maxLen]; omega) (by omega) (by simp; omega) ?_
             intro v2 w2 hown2 hg2 hat2))
        have hb2 : Below w1.heap.size w1 w2 := (hbr.alloc hszr _).grown hg2 (by simp; omega) (own_ge hown)
        go_roundw
        case rel =>
          refine ⟨k + 1, by omega, by go_num, ?_, hb2⟩
          rw [List.take_succ_eq_append_getElem hlt, List.map_append, List.map_append]
          exact hown2
        case measure => simp [intOf]; omega
      · have hkx : Hid (k = x.length) := show k = x.length by omega
        obtain ⟨A8, c8, rfl⟩ := own_shape hown
        have hRX : Seats wr wr.heap.size AX x := Rd.of_own hownX
        have hRW : Ints wr wr.heap.size A8 (x.map (·.who)) := by
          have := Rd.of_own hown
          rw [hkx.out, List.take_length] at this
          show Rd wr wr.heap.size 1 A8 (x.map (·.who)).length ((x.map (·.who)).map (Value.int .i64))
          rw [List.length_map]
          exact this
        have hq1 : Calls Try.prog 20 #[.slice AX x.length cX, .slice A8 k c8] wr fun e w' => e = .returned (.bool true) ∧ Below wr.heap.size wr w' := by
          have := quorum_any x (x.map (·.who)) AX A8 cX c8 wr.heap.size wr hRX hRW (Nat.le_refl _) (by simp [maxLen]; omega) (by simp [maxLen]; omega)
          have e2 : (x.map (·.who)).length = k := by rw [List.length_map, hkx.out]
          rw [e2] at this
          have e : decide (wrap64 (2 * total x) < wrap64 (3 * weightOf x (x.map (·.who)))) = true := quorum_whole HB
          rwa [e] at this
        have HQ1 := Lib.hid hq1
        have hqn : ∀ W : World, Seats W W.heap.size AX x → Calls Try.prog 20 #[.slice AX x.length cX, .slice none 0 0] W fun e w' => e = .returned (.bool false) ∧ Below W.heap.size W w' := fun W hS => by
          have := quorum_any x [] AX none cX 0 W.heap.size W hS (Rd.nil _ _ _ _) (Nat.le_refl _) (by simp [maxLen]; omega) (by simp)
          have e : decide (wrap64 (2 * total x) < wrap64 (3 * weightOf x [])) = false := quorum_none HB
          rwa [e] at this
        have HQN := Lib.hid hqn
        have hqa : ∀ (W : World) (m : List Int) (Am : Option Addr) (cm : Nat), Seats W W.heap.size AX x → Ints W W.heap.size Am m → m.length ≤ 4096 → Calls Try.prog 20 #[.slice AX x.length cX, .slice Am m.length cm] W fun e w' => e = .returned (.bool (quorumB x m)) ∧ Below W.heap.size W w' := fun W m Am cm hS hI hm =>
          quorum_any x m AX Am cX cm W.heap.size W hS hI (Nat.le_refl _) (by simp [maxLen]; omega) (by simp [maxLen]; omega)
        have HQA := Lib.hid hqa
        clear hq1 hqn hqa hRW hown
        have hbw : Below w.heap.size w wr := hb1.trans (hbr.mono hsz1)
        go_wp2_with fail
        refine (HQ1.out).mono ?_
        rintro e w2 ⟨rfl, hb2⟩
        have hR2 : Seats w2 w2.heap.size AX x := (hRX.below hb2).more hb2.size
        go_wp2_with fail
        refine (HQN.out w2 hR2).mono ?_
        rintro e w3 ⟨rfl, hb3⟩
        have hR3 : Seats w3 w3.heap.size AX x := (hR2.below hb3).more hb3.size
        have hbw3 : Below w.heap.size w w3 := (hbw.trans (hb2.mono hbw.size)).trans (hb3.mono (Nat.le_trans hbw.size hb2.size))
        go_wp2_with fail
        refine (HQA.out w3 a Aa ca hR3 ((ha.below hbw3).more hbw3.size) hla).mono ?_
        rintro e w4 ⟨rfl, hb4⟩
        have hR4 : Seats w4 w4.heap.size AX x := (hR3.below hb4).more hb4.size
        have hbw4 : Below w.heap.size w w4 := hbw3.trans (hb4.mono hbw3.size)
        cases hqa : quorumB x a
        · go_wp2
          go_ret
          exact ⟨rfl, hbw4⟩
        · go_wp2_with fail
          refine (HQA.out w4 b Ab cb hR4 ((hb.below hbw4).more hbw4.size) hlb).mono ?_
          rintro e w5 ⟨rfl, hb5⟩
          have hR5 : Seats w5 w5.heap.size AX x := (hR4.below hb5).more hb5.size
          have hbw5 : Below w.heap.size w w5 := hbw4.trans (hb5.mono hbw4.size)
          cases hqb : quorumB x b
          · go_wp2
            go_ret
            exact ⟨rfl, hbw5⟩
          · have HM := Lib.hid (quorum_meet HB a b hqa hqb)
            clear HQ1 HQN HQA hqa hqb
            go_wp2
            have hI5a : Ints w5 w5.heap.size Aa a := (ha.below hbw5).more hbw5.size
            have hI5b : Ints w5 w5.heap.size Ab b := (hb.below hbw5).more hbw5.size
            go_loopw [12, 13, 14] (fun v i o wr => ∃ k : Nat, k ≤ a.length ∧ i = .int .i64 k ∧ wr.ownsRow w5.heap.size 3 1 v ((a.take k).filter fun y => decide (y ∈ b)).length (((a.take k).filter fun y => decide (y ∈ b)).map (Value.int .i64)) ∧ Below w5.heap.size w5 wr) (fun _ i _ _ => a.length - (intOf i).toNat)
            case atStart => exact ⟨0, by omega, rfl, World.ownsRow_nil _ _ _ _, Below.refl _ _⟩
            case round =>
              obtain ⟨j, hj, rfl, hown, hbr5⟩ := hrel
              have hsz5 := hbr5.size
              by_cases hlt : j < a.length
              · have HF := Lib.hid (filter_snoc a (fun y => decide (y ∈ b)) j hlt)
                have hflen : ((a.take j).filter fun y => decide (y ∈ b)).length ≤ 4096 := Nat.le_trans (List.length_filter_le _ _) (by simp; omega)
                generalize hL : (a.take j).filter (fun y => decide (y ∈ b)) = L at *
                clear hL
                have hji : (j : Int) < (a.length : Int) := by omega
                go_wp2
                obtain ⟨wo, rfl⟩ : ∃ wo : World, wo = wr := ⟨_, rfl⟩
                go_loopw [12, 14] (fun v i wr => ∃ q : Nat, q ≤ b.length ∧ i = .int .i64 q ∧ v = u12 ∧ (∀ r (_ : r < q) (hr : r < b.length), a[j] ≠ b[r]) ∧ Below wo.heap.size wo wr) (fun _ i _ => b.length - (intOf i).toNat)
                case atStart => exact ⟨0, by omega, rfl, rfl, fun r hr => absurd hr (by omega), Below.refl _ _⟩
                case round =>
                  obtain ⟨q, hq, rfl, rfl, hne, hbo⟩ := hrel
                  have HN := Lib.hid hne
                  clear hne
                  have hbr' : Below w5.heap.size w5 wr := hbr5.trans (hbo.mono hsz5)
                  have hown' := own_below hown hbo
                  have hszr := hbr'.size
                  obtain ⟨ab, ao, hA, _, hca⟩ := Ints.at_ (hI5a.below hbr') hlt
                  subst hA
                  by_cases hql : q < b.length
                  · obtain ⟨bb, bo, hA, _, hcb⟩ := Ints.at_ (hI5b.below hbr') hql
                    subst hA
                    have hqi : (q : Int) < (b.length : Int) := by omega
                    by_cases heq : a[j] = b[q]
                    · have hE : (a[j] == b[q]) = true := by simp [heq]
                      have hmem : Hid ((if (fun y => decide (y ∈ b)) a[j] then [a[j]] else []) = [a[j]]) := by
                        show _ = _
                        rw [if_pos]; simp [heq]
                      clear heq
                      go_wp2
                      go_quiet (fail)
                      go_wp2_with (first
                        | (at_builtin; refine wpList_append_any _ rfl (.tmp 86) (.tmp 91) 28 rfl w5.heap.size 3 i0 _ 1 8 Try.underlying28 hi0 hz0 hz1 hz2 rfl (by omega) _ L.length _ (by rfl) (by exact own_drewN (hown'.alloc _) _) (wr.heap.size + 1) _ 1 1 [.int .i64 a[j]] (by rfl) (by exact (Rd.laid wr #[.int .i64 a[j]] 3 1 1 rfl).drewN _) (fun u hu => by simp at hu; subst hu; rfl) (by simp [maxLen]; omega) (by omega) (by simp; omega) ?_
                           intro v2 w2 hown2 hg2 hat2))
                      have hbz := ((hbr'.alloc hszr _).drewN _).grown hg2 (by simp; omega) (own_ge hown')
                      go_roundw
                      case rel =>
                        refine ⟨j + 1, by omega, by go_num, ?_, hbz⟩
                        rw [HF.out, hmem.out]
                        simp only [List.length_append, List.map_append, List.length_singleton]
                        exact hown2
                      case measure => simp [intOf]; omega
                    · have hE : (a[j] == b[q]) = false := by simp [heq]
                      have HE := Lib.hid heq
                      clear heq
                      go_wp2
                      go_quiet (fail)
                      go_wp2
                      go_roundw
                      case rel =>
                        refine ⟨q + 1, by omega, by go_num, rfl, fun r hr hrl => ?_, hbo.drewN _⟩
                        by_cases e : r = q
                        · subst e; exact HE.out
                        · exact HN.out r (by omega) hrl
                      case measure => simp [intOf]; omega
                  · have hmem : Hid ((if (fun y => decide (y ∈ b)) a[j] then [a[j]] else []) = []) := by
                      show _ = _
                      rw [if_neg]
                      simp only [decide_eq_true_eq]
                      intro hm
                      obtain ⟨r, hr, e⟩ := List.getElem_of_mem hm
                      exact HN.out r (by omega) hr e.symm
                    go_wp2
                    go_roundw
                    case rel =>
                      refine ⟨j + 1, by omega, by go_num, ?_, hbr'⟩
                      rw [HF.out, hmem.out, List.append_nil]
                      exact hown'
                    case measure => simp [intOf]; omega
              · have hja : Hid (a.take j = a) := List.take_of_length_le (by omega)
                obtain ⟨A9, c9, rfl⟩ := own_shape hown
                have hRd : Ints wr wr.heap.size A9 (a.filter fun y => decide (y ∈ b)) := by
                  have := Rd.of_own hown
                  rw [hja.out] at this
                  show Rd _ _ 1 _ _ _
                  exact this
                have hlen9 : (a.filter fun y => decide (y ∈ b)).length ≤ 4096 := Nat.le_trans (List.length_filter_le _ _) hla
                have hwS := some_any x (a.filter fun y => decide (y ∈ b)) AX A9 cX c9 wr.heap.size wr ((hR5.below hbr5).more hsz5) hRd (Nat.le_refl _) (by simp [maxLen]; omega) (by simp [maxLen]; omega)
                have hfin : Calls Try.prog 21 #[.slice AX x.length cX, .slice A9 ((a.take j).filter fun y => decide (y ∈ b)).length c9] wr fun e w' => e = .returned (.bool true) ∧ Below wr.heap.size wr w' := by
                  rw [hja.out]
                  refine hwS.mono ?_
                  rintro e w' ⟨rfl, hbb⟩
                  exact ⟨ret_bool HM.out, hbb⟩
                have HS := Lib.hid hfin
                clear hfin hwS hRd hown
                generalize ((a.take j).filter fun y => decide (y ∈ b)).length = n9 at *
                go_wp2_with fail
                refine (HS.out).mono ?_
                rintro e w6 ⟨rfl, hb6⟩
                go_wp2
                go_ret
                exact ⟨rfl, (hbw5.trans (hbr5.mono hbw5.size)).trans (hb6.mono (Nat.le_trans hbw5.size hsz5))⟩
  · go_enter Try.func4, Try.ntmps4
    go_wp2_with fail
    all_goals
      go_ret
      exact ⟨rfl, Below.refl _ _⟩

namespace benchMeets
open Go.ChangeShapes Go.WideShapes Go.ChangeAt Go.RowKit
set_option maxRecDepth 100000 in
theorem walk {H : Type} (enc : TypeId × Value → H) : LawWalk enc Try.prog Try.f4 4 := by
  intro W args ds p hA hval hlt hfz
  rw [Try.params4] at hA hval
  obtain ⟨v0, vs0, d0, ds0, p0, q0, hargs, rfl, rfl, h0, r0⟩ := trodAll_cons hA
  obtain ⟨v1, vs1, d1, ds1, p1, q1, rfl, rfl, rfl, h1, r1⟩ := trodAll_cons r0
  obtain ⟨v2, vs2, d2, ds2, p2, q2, rfl, rfl, rfl, h2, r2⟩ := trodAll_cons r1
  obtain ⟨rfl, rfl, rfl⟩ := trodAll_nil r2
  obtain rfl : args = #[v0, v1, v2] := by cases args; simp_all
  obtain ⟨A0, c0, l0, rfl, _, _, hl0, hw0⟩ := open_seats (hval 0 _ v0 rfl rfl) h0
  obtain ⟨A1, c1, l1, rfl, _, _, hl1, _⟩ := open_intsT (hval 1 _ v1 rfl rfl) h1
  obtain ⟨A2, c2, l2, rfl, _, _, hl2, _⟩ := open_intsT (hval 2 _ v2 rfl rfl) h2
  exact benchMeets_walk l0 l1 l2 A0 A1 A2 c0 c1 c2 W hl0 hl1 hl2 hw0
set_option maxRecDepth 100000 in
theorem over : Rows.benchMeetsRow.holds Try.pinned (OpenSpec.ofChange Rows.benchMeetsSpec) :=
  OpenClaim.holds_of_wide 4 Try.f4 rfl rfl rfl rfl rfl rfl rfl ⟨rfl, rfl, rfl, rfl, rfl⟩ rfl rfl rfl rfl rfl (by kernel_rfl) Try.func4 (by kernel_rfl)
    (of_decide_eq_true (by kernel_rfl)) (by unfold Func.isWrapper; first | (rw [if_pos (by decide +kernel)]; kernel_rfl) | (rw [if_neg (by decide +kernel)]; exact ⟨rfl, rfl⟩))
    (fun os started H enc _ => law_lift (C := Try.checked) (s := Rows.benchMeetsSpec) (by kernel_rfl) started (by kernel_rfl) Try.func4 (by kernel_rfl) (by kernel_rfl) rfl rfl Try.underlying4
      (fun ds h => match ds, h with | [_, _, _], _ => rfl)
      (ChangeSpec.witness6 (enc := enc) (C := Try.checked) false ⟨#[], #[.slice none 0 0, .slice none 0 0, .slice none 0 0], []⟩ 8 (by kernel_rfl) (by kernel_rfl) (by kernel_rfl) (by kernel_rfl))
      (walk enc))
end benchMeets
/-- the statement -/
theorem benchMeets_holds : Rows.BenchMeetsSaid := benchMeets.over
#print axioms benchMeets_holds
end Go.Proofs.Ytdgifhgiablgdaa
