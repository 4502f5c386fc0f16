/- Of the texts Hq6, Hq7. -/
import Derived.Test.YtlfonmpgenoooaaProg
import Derived.Test.YtlfonmpgenoooaaG17
import Derived.Test.YtlfonmpgenoooaaG20
import Derived.Shelf.SlSortCmp.QuietGrown
set_option linter.unusedSimpArgs false
set_option linter.unusedVariables false
namespace Go.Proofs.Ytlfonmpgenoooaa
open Go Go.RowKit Go.Sort
set_option maxRecDepth 100000
theorem nan_x (a : Int) (w : World) : Calls Try.prog 43 #[.int .i64 a] w fun e w' => e = .returned (.bool false) ∧ w' = w := by
 go_enter Try.func43, Try.ntmps43; go_wp2; go_ret; exact ⟨rfl, rfl⟩
theorem cmp_x (a b : Int) (w : World) : Calls Try.prog 27 #[.int .i64 a, .int .i64 b] w fun e w' => e = .returned (.int .i64 (cmpI a b)) ∧ w' = w := by
 have hn := fun x => nan_x x w
 unfold cmpI
 by_cases h : a < b
 ·rw [if_pos h]; go_enter Try.func27, Try.ntmps27
  go_wp2_with (go_at_call 43; refine (hn _).mono ?_; rintro e w' ⟨rfl, rfl⟩); go_ret; exact ⟨rfl, rfl⟩
 ·rw [if_neg h]
  by_cases h2 : b < a
  ·rw [if_pos h2]; go_enter Try.func27, Try.ntmps27
   go_wp2_with (go_at_call 43; refine (hn _).mono ?_; rintro e w' ⟨rfl, rfl⟩); go_ret; exact ⟨rfl, rfl⟩
  ·rw [if_neg h2]; go_enter Try.func27, Try.ntmps27
   go_wp2_with (go_at_call 43; refine (hn _).mono ?_; rintro e w' ⟨rfl, rfl⟩); go_ret; exact ⟨rfl, rfl⟩
theorem clo_x (x y : Seat) (w : World) : Calls Try.prog 26 #[.agg #[.int .i64 x.who, .int .i64 x.weight], .agg #[.int .i64 y.who, .int .i64 y.weight]] w fun e w' => e = .returned (.int .i64 (cmpI x.who y.who)) ∧ ∃ q os', w' = grow (w.drewN q) os' := by
 have hcon := fun W' => cmp_x x.who y.who W'
 go_enter Try.func26, Try.ntmps26
 go_wp2_with (go_at_call 27; refine (hcon _).mono ?_; rintro e w' ⟨rfl, rfl⟩); go_ret; exact ⟨rfl, 0, _, by rw [alloc_eq_grow, alloc_eq_grow, grow_grow]; rfl⟩
theorem HW.load {w : World} {g B rb c : Nat} {l : List Seat} (H : HW w g B rb c l) {k : Nat} (hk : k < l.length) : Sem.run Try.prog (loadCellsFrom ⟨rb, k * 2, none⟩ 0 2 #[]) w = .ok (seatCells (at7 l k)).toArray w := by
 obtain ⟨cur, hb, _, ht⟩ := H.row; exact load_seat Try.prog hb ht hk
theorem below_grow (w : World) (n : Nat) (os : Array Obj) : Below w.heap.size w (grow (w.drewN n) os) := ⟨rfl, rfl, rfl, by show _ ≤ (w.heap ++ os).size; rw [Array.size_append]; omega, fun k hk => by show (w.heap ++ os)[k]? = _; rw [Array.getElem?_append_left hk]⟩
theorem HW.grown {w : World} {g B rb c : Nat} {l : List Seat} (H : HW w g B rb c l) (n : Nat) (os : Array Obj) : HW (grow (w.drewN n) os) g B rb c l := by
 obtain ⟨cur, hb, hs, ht⟩ := H.row; have h := below_grow w n os; exact ⟨H.hd.below h H.hd.lt, H.gB, H.Br, H.cm, H.lc, H.sm, ⟨cur, hb.below h hb.lt, hs, ht⟩⟩
theorem sw_comm (l : List Seat) {i j : Nat} (h : i ≠ j) : sw l i j = sw l j i := by
 unfold sw; rw [List.set_comm _ _ h]
theorem HW.belowS {w w' : World} {g B rb c : Nat} {l : List Seat} (H : HW w g B rb c l) (h : Below w.heap.size w w') : HW w' g B rb c l := by
 obtain ⟨cur, hb, hs, ht⟩ := H.row; exact ⟨H.hd.below h H.hd.lt, H.gB, H.Br, H.cm, H.lc, H.sm, ⟨cur, hb.below h hb.lt, hs, ht⟩⟩
theorem swapW_hw {w : World} {g B rb c : Nat} {l : List Seat} (H : HW w g B rb c l) (i j : Nat) : HW (swapW w rb i j l) g B rb c (sw l i j) ∧ TurnB w (swapW w rb i j l) g B := by
 obtain ⟨cur, hb, hs, ht⟩ := H.row; have hgr : g ≠ rb := by have := H.gB; have := H.Br; omega
 have hle : g ≤ rb := by have := H.gB; have := H.Br; omega
 have hlow : Below g w (swapW w rb i j l) := ((((Below.refl g w).drew.setCell (p := ⟨rb, i * 2, none⟩) hle _).setCell (p := ⟨rb, i * 2 + 1, none⟩) hle _).setCell (p := ⟨rb, j * 2, none⟩) hle _).setCell (p := ⟨rb, j * 2 + 1, none⟩) hle _; refine ⟨⟨?_, H.gB, H.Br, H.cm, by rw [sw_len]; exact H.lc, by rw [sw_len]; exact H.sm, ?_⟩, ⟨hlow, fun k hk _ => swapW_heap _ _ _ _ _ _ (by have := H.Br; omega)⟩⟩
 ·rw [sw_len]; exact (swapW_heap w rb i j l g hgr).trans H.hd
 ·obtain ⟨c1, b1, z1, t1⟩ := row_set hb.drew ht i (at7 l j); obtain ⟨c2, b2, z2, t2⟩ := row_set b1 t1 j (at7 l i); exact ⟨c2, b2, by rw [z2, z1, hs], by rw [sw_len]; exact t2⟩
theorem HW.at2 {w : World} {g B rb c : Nat} {l : List Seat} (H : HW w g B rb c l) {k : Nat} (hk : k < l.length) : w.cell? ⟨rb, k * 2, none⟩ = some (.int .i64 (at7 l k).who) ∧ w.cell? ⟨rb, k * 2 + 1, none⟩ = some (.int .i64 (at7 l k).weight) := by
 obtain ⟨cur, hb, hs, ht⟩ := H.row; obtain ⟨_, e1, q0⟩ := seat_cell hb ht hk (j := 0) (by decide); obtain ⟨_, e2, q1⟩ := seat_cell hb ht hk (j := 1) (by decide); cases e1; cases e2; exact ⟨q0, q1⟩
theorem HW.fr {w : World} {g B rb c : Nat} {l : List Seat} (H : HW w g B rb c l) (k : Nat) : w.frozen? ⟨rb, k, none⟩ = false := by
 obtain ⟨cur, hb, _, _⟩ := H.row; exact hb.frozen k
theorem HW.set3 {w : World} {g B rb c : Nat} {l : List Seat} (H : HW w g B rb c l) {i j : Nat} (hj : j < l.length) (a b d : Value) : (∃ v, ((w.setCell ⟨rb, i * 2, none⟩ a).setCell ⟨rb, i * 2 + 1, none⟩ b).cell? ⟨rb, j * 2, none⟩ = some v) ∧ ∃ v, (((w.setCell ⟨rb, i * 2, none⟩ a).setCell ⟨rb, i * 2 + 1, none⟩ b).setCell ⟨rb, j * 2, none⟩ d).cell? ⟨rb, j * 2 + 1, none⟩ = some v := by
 obtain ⟨cur, hb, hs, ht⟩ := H.row; have hlc := H.lc; have h2 := (hb.set_ (i * 2) a).set_ (i * 2 + 1) b; refine ⟨blk_some h2 (k := j * 2) ?_, blk_some (h2.set_ (j * 2) d) (k := j * 2 + 1) ?_⟩
 ·rw [Array.size_setIfInBounds, Array.size_setIfInBounds]; omega
 ·rw [Array.size_setIfInBounds, Array.size_setIfInBounds, Array.size_setIfInBounds]; omega
set_option maxHeartbeats 2000000 in
theorem ins_hw {w : World} {g B rb c : Nat} {l : List Seat} (H : HW w g B rb c l) (hl : 0 < l.length) :
  Calls Try.prog 56 #[.slice (some ⟨rb, 0, none⟩) l.length c, .int .i64 0, .int .i64 l.length, .func (.func 26) #[] #[]] w fun e w' => e = .returned (.tuple #[]) ∧ HW w' g B rb c (sortTo l l.length) ∧ TurnB w w' g B := by
 have mixed : Try.prog.follows .mixedOrders = true := by kernel_rfl
 have eg : ∀ args w, (callFunc 26 args).run Try.prog w = .ok (.enter 26 args) w := enters_of Try.func26 (by kernel_rfl) rfl
 have hsm := H.sm; go_enter Try.func56, Try.ntmps56; go_wp2
 go_loopw [8] (fun x wr => ∃ (i : Nat), x = .int .i64 i ∧ 1 ≤ i ∧ i ≤ l.length ∧ HW wr g B rb c (sortTo l i) ∧ TurnB w wr g B) (fun x _ => (match x with | .int _ z => 100 - z.toNat | _ => 0))
 case atStart => exact ⟨1, by go_num, by omega, by omega, H, TurnB.refl _ _ _⟩
 case round =>
  obtain ⟨i, rfl, hi1, hil, Hi, T⟩ := hrel
  by_cases hlt : i < l.length
  ·have hltz : (i : Int) < (l.length : Int) := by omega
   go_wp2
   go_loopw [9] (fun x wr => ∃ (j : Nat) (m : List Seat), x = .int .i64 j ∧ j ≤ i ∧ m.length = l.length ∧ HW wr g B rb c m ∧ TurnB w wr g B ∧ innerL j m = sortTo l (i + 1)) (fun x _ => (match x with | .int _ z => z.toNat | _ => 0))
   case atStart => exact ⟨i, sortTo l i, rfl, Nat.le_refl _, sortTo_len l i, Hi, T, rfl⟩
   case round =>
    obtain ⟨j, m, rfl, hji, hml, Hm, Tm, hu⟩ := hrel
    by_cases hj0 : 0 < j
    ·obtain ⟨q, hq⟩ : ∃ q, j = q + 1 := ⟨j - 1, by omega⟩
     have hjz : (0 : Int) < (j : Int) := by omega
     have hpj : (j : Int) < (l.length : Int) := by omega
     have hpq : (q : Int) < (l.length : Int) := by omega
     have hwq : IntKind.i64.wrap ((j : Int) - 1) = (q : Int) := by rw [IntKind.wrap_i64]; omega
     have hjm : j < m.length := by omega
     have hqm : q < m.length := by omega
     have HQ : Hid (j = q + 1) := hq; have hcg : ∀ n' os', Calls Try.prog 26 #[.agg #[.int .i64 (at7 m j).who, .int .i64 (at7 m j).weight], .agg #[.int .i64 (at7 m q).who, .int .i64 (at7 m q).weight]] (grow (wr.drewN n') os') fun e w' => e = .returned (.int .i64 (cmpI (at7 m j).who (at7 m q).who)) ∧ ∃ r os'', w' = grow ((grow (wr.drewN n') os').drewN r) os'' := fun n' os' => clo_x _ _ _
     have j0 := fun n' os' => ((Hm.grown n' os').at2 hjm).1
     have j1 := fun n' os' => ((Hm.grown n' os').at2 hjm).2
     have q0 := fun n' os' => ((Hm.grown n' os').at2 hqm).1
     have q1 := fun n' os' => ((Hm.grown n' os').at2 hqm).2
     obtain ⟨z, hz⟩ : ∃ z, cmpI (at7 m j).who (at7 m q).who = z := ⟨_, rfl⟩
     rw [hz] at hcg; have K : Hid (HW wr g B rb c m ∧ TurnB w wr g B ∧ innerL j m = sortTo l (i + 1) ∧ cmpI (at7 m j).who (at7 m q).who = z) := ⟨Hm, Tm, hu, hz⟩
     clear hq
     by_cases hlv : z < 0
     ·go_wp2_with fail
      go_quiet_grown (first | (go_at_fn 26; refine Calls.grown_of (hcg _ _))); go_wp2_with fail; have H2 := K.out.1.grown nq osq; have T2 := K.out.2.1.trans (TurnB.of_below (B := B) (below_grow wr nq osq) (Nat.le_of_lt K.out.1.hd.lt) (by have := K.out.1.lt; have := K.out.1.Br; omega)); clear hcg j0 j1 q0 q1; generalize grow (wr.drewN nq) osq = wq at H2 T2 ⊢
      obtain ⟨j0, j1⟩ := H2.at2 hjm; obtain ⟨q0, q1⟩ := H2.at2 hqm; have fj0 := H2.fr (j * 2); have fj1 := H2.fr (j * 2 + 1); have fq0 := H2.fr (q * 2); have fq1 := H2.fr (q * 2 + 1); obtain ⟨⟨v2, g2⟩, ⟨v3, g3⟩⟩ := H2.set3 (i := j) hqm (.int .i64 (at7 m q).who) (.int .i64 (at7 m q).weight) (.int .i64 (at7 m j).who); obtain ⟨H3, T3⟩ := swapW_hw H2 j q; have HW3 : Hid (HW (swapW wq rb j q m) g B rb c (sw m j q) ∧ TurnB w (swapW wq rb j q m) g B) := ⟨H3, T2.trans T3⟩
      clear H3 T3 H2 T2; have HSW : Hid (swapW wq rb j q m = (((wq.drew.setCell ⟨rb, j * 2, none⟩ (.int .i64 (at7 m q).who)).setCell ⟨rb, j * 2 + 1, none⟩ (.int .i64 (at7 m q).weight)).setCell ⟨rb, q * 2, none⟩ (.int .i64 (at7 m j).who)).setCell ⟨rb, q * 2 + 1, none⟩ (.int .i64 (at7 m j).weight)) := rfl; generalize swapW wq rb j q m = wf at HW3 HSW
      go_big_region_o
      all_goals go_wp2
      go_roundw
      case rel =>
       refine ⟨q, sw m j q, by go_num, by have := HQ.out; omega, by rw [sw_len]; exact hml, ?_, ?_, ?_⟩
       ·have h := HW3.out.1; rw [HSW.out] at h; exact h
       ·have h := HW3.out.2; rw [HSW.out] at h; exact h
       ·have hu := K.out.2.2.1; have e := HQ.out; have hz := K.out.2.2.2; subst e; have hlt : (at7 m (q + 1)).who < (at7 m q).who := by
         unfold cmpI at hz
         by_cases hc : (at7 m (q + 1)).who < (at7 m q).who
         ·exact hc
         ·rw [if_neg hc] at hz; split at hz <;> omega
        rw [innerL, if_pos hlt] at hu; rw [sw_comm m (by omega : q + 1 ≠ q)]; exact hu
      case measure => have := HQ.out; simp; omega
     ·go_wp2_with fail
      go_quiet_grown (first | (go_at_fn 26; refine Calls.grown_of (hcg _ _))); go_wp2
      go_roundw
      case rel =>
       refine ⟨i + 1, by go_num, by omega, by omega, ?_, ?_⟩
       ·have hu := K.out.2.2.1; have e := HQ.out; have hz := K.out.2.2.2; subst e; have hlt : ¬ (at7 m (q + 1)).who < (at7 m q).who := by
         intro hc; unfold cmpI at hz; rw [if_pos hc] at hz; omega
        rw [innerL, if_neg hlt] at hu; rw [← hu]; exact K.out.1.grown nq osq
       ·exact K.out.2.1.trans (TurnB.of_below (B := B) (below_grow wr nq osq) (Nat.le_of_lt K.out.1.hd.lt) (by have := K.out.1.lt; have := K.out.1.Br; omega))
      case measure => simp; omega
    ·have hjz : decide ((j : Int) > 0) = false := decide_eq_false (by omega); have hjz' : ¬ (0 : Int) < (j : Int) := by omega
     go_wp2_with fail
     go_big_region_o
     all_goals go_wp2
     go_roundw
     case rel =>
      have e : j = 0 := by omega
      subst e; rw [innerL] at hu; exact ⟨i + 1, by go_num, by omega, by omega, by rw [← hu]; exact Hm.belowS (Below.refl _ _).drew, Tm.trans ⟨(Below.refl _ _).drew, fun _ _ _ => rfl⟩⟩
     case measure => simp; omega
  ·have hltz : ¬ (i : Int) < (l.length : Int) := by omega
   go_wp2
   go_end0
   exact ⟨rfl, by rw [show l.length = i by omega]; exact Hi, T⟩
set_option maxHeartbeats 2000000 in
theorem len64_x (n : Nat) (h : n ≤ 8) (w : World) : Calls Try.prog 65 #[.int .u64 n] w fun e w' => (∃ z : Int, e = .returned (.int .i64 z)) ∧ w' = w := by
 have hn : n = 0 ∨ n = 1 ∨ n = 2 ∨ n = 3 ∨ n = 4 ∨ n = 5 ∨ n = 6 ∨ n = 7 ∨ n = 8 := by omega
 rcases hn with rfl | rfl | rfl | rfl | rfl | rfl | rfl | rfl | rfl
 all_goals
  go_enter Try.func65, Try.ntmps65; go_wp2; go_ret; exact ⟨⟨_, rfl⟩, rfl⟩
theorem len_x (n : Nat) (h : n ≤ 8) (w : World) : Calls Try.prog 42 #[.int .u64 n] w fun e w' => (∃ z : Int, e = .returned (.int .i64 z)) ∧ w' = w := by
 have hc := len64_x n h w; go_enter Try.func42, Try.ntmps42
 go_wp2_with (go_at_call 65; refine hc.mono ?_; rintro e w' ⟨⟨z, rfl⟩, rfl⟩); go_ret; exact ⟨⟨_, rfl⟩, rfl⟩
theorem pdq_hw {w : World} {g B rb c : Nat} {l : List Seat} (H : HW w g B rb c l) (hl : 0 < l.length) (z : Int) :
  Calls Try.prog 41 #[.slice (some ⟨rb, 0, none⟩) l.length c, .int .i64 0, .int .i64 l.length, .int .i64 z, .func (.func 26) #[] #[]] w fun e w' => e = .returned (.tuple #[]) ∧ HW w' g B rb c (sortTo l l.length) ∧ TurnB w w' g B := by
 have hc := ins_hw H hl; have hsm := H.sm; have h12 : (l.length : Int) ≤ 12 := by omega
 go_enter Try.func41, Try.ntmps41; go_wp2; refine wp_loop_rounds 1 ?_; rw [rounds_succ]; go_wp2_with fail; refine hc.mono ?_; rintro e w' ⟨rfl, H1, T1⟩; dsimp only; go_wp2_with fail
 first | go_end0 | ((try simp only [Exit.inBlock, Exit.then]); refine bodyPost_ret (results_none rfl _ _ _) rfl ?_); exact ⟨rfl, H1, T1⟩
theorem sort_hw {w : World} {g B rb c : Nat} {l : List Seat} (H : HW w g B rb c l) (hl : 0 < l.length) :
  Calls Try.prog 25 #[.slice (some ⟨rb, 0, none⟩) l.length c, .func (.func 26) #[] #[]] w fun e w' => e = .returned (.tuple #[]) ∧ HW w' g B rb c (sortTo l l.length) ∧ TurnB w w' g B := by
 have hsm := H.sm; go_enter Try.func25, Try.ntmps25; go_wp2_with fail; refine (len_x l.length (by omega) _).mono ?_; rintro e w' ⟨⟨z, rfl⟩, rfl⟩; dsimp only; go_wp2_with fail; refine (pdq_hw H hl _).mono ?_; rintro e w2 ⟨rfl, H1, T1⟩; dsimp only; go_wp2_with fail
 go_end0
 exact ⟨rfl, H1, T1⟩
theorem ins_nil (A : Option Addr) (c : Nat) (w : World) : Calls Try.prog 56 #[.slice A 0 c, .int .i64 0, .int .i64 0, .func (.func 26) #[] #[]] w fun e w' => e = .returned (.tuple #[]) ∧ w' = w := by
 go_enter Try.func56, Try.ntmps56; go_wp2
 go_loopw [8] (fun x wr => x = .int .i64 1 ∧ wr = w) (fun x _ => (match x with | .int _ z => 100 - z.toNat | _ => 0))
 case atStart => exact ⟨rfl, rfl⟩
 case round =>
  obtain ⟨rfl, rfl⟩ := hrel; go_wp2
  go_end0
  exact ⟨rfl, rfl⟩
theorem pdq_nil (A : Option Addr) (c : Nat) (z : Int) (w : World) :
  Calls Try.prog 41 #[.slice A 0 c, .int .i64 0, .int .i64 0, .int .i64 z, .func (.func 26) #[] #[]] w fun e w' => e = .returned (.tuple #[]) ∧ w' = w := by
 have hc := ins_nil A c w; go_enter Try.func41, Try.ntmps41; go_wp2; refine wp_loop_rounds 1 ?_; rw [rounds_succ]; go_wp2_with fail; refine hc.mono ?_; rintro e w' ⟨rfl, rfl⟩; dsimp only; go_wp2_with fail
 first | go_end0 | ((try simp only [Exit.inBlock, Exit.then]); refine bodyPost_ret (results_none rfl _ _ _) rfl ?_); exact ⟨rfl, rfl⟩
theorem sort_nil (A : Option Addr) (c : Nat) (w : World) :
  Calls Try.prog 25 #[.slice A 0 c, .func (.func 26) #[] #[]] w fun e w' => e = .returned (.tuple #[]) ∧ w' = w := by
 go_enter Try.func25, Try.ntmps25; go_wp2_with fail; refine (len_x 0 (by omega) _).mono ?_; rintro e w' ⟨⟨z, rfl⟩, rfl⟩; dsimp only; go_wp2_with fail; refine (pdq_nil A c _ _).mono ?_; rintro e w2 ⟨rfl, rfl⟩; dsimp only; go_wp2_with fail
 go_end0
 exact ⟨rfl, rfl⟩
end Go.Proofs.Ytlfonmpgenoooaa
