/- How heavy transactions are: a number, an answer that hangs on the transactions alone. -/
import Derived.Test.YtjmkcndjjfokiaaProg
import Derived.Test.YtjmkcndjjfokiaaHeavy
namespace Go.Proofs.Ytjmkcndjjfokiaa
open Go.RowKit
def sightAdd (n : Int) (s : SightD) : Int := wrap64 (wrap64 (wrap64 (n + (s.cert.froms.length : Int)) + (s.seats.length : Int)) + 9)
def proofAdd (n : Int) (p : ProofD) : Int := wrap64 (wrap64 (wrap64 (n + (p.turns.length : Int)) + (p.key.length : Int)) + (p.value.length : Int))
def weighS (x : TxD) : Int := wrap64 (wrap64 ((x.proofs.take 9).foldl proofAdd ((x.sights.take 9).foldl sightAdd (wrap64 (wrap64 ((x.text.length : Int) + (x.args.length : Int)) + 1))) + (x.sights.length : Int)) + (x.proofs.length : Int))
def heavyW : List TxD → Int → Int
  | [], n => n
  | s :: r, n => if n ≤ 65536 then heavyW r (wrap64 (n + weighS s)) else n
def heavyS (l : List TxD) : Bool := decide (65536 < heavyW l (l.length : Int))
theorem heavyW_big (l : List TxD) (n : Int) (h : ¬ n ≤ 65536) : heavyW l n = n := by
  cases l with
  | nil => rfl
  | cons s r => rw [heavyW, if_neg h]
theorem heavyW_step (l : List TxD) (k : Nat) (n : Int) (hk : k < l.length) (hn : n ≤ 65536) : heavyW (l.drop k) n = heavyW (l.drop (k + 1)) (wrap64 (n + weighS l[k])) := by
  rw [List.drop_eq_getElem_cons hk, heavyW, if_pos hn]
theorem heavyW_end (l : List TxD) (k : Nat) (n : Int) (h : ¬ (k < l.length ∧ n ≤ 65536)) : heavyW (l.drop k) n = n := by
  by_cases hk : k < l.length
  · exact heavyW_big _ _ fun hn => h ⟨hk, hn⟩
  · rw [List.drop_eq_nil_of_le (by omega)]; rfl
theorem fold_take9 {α β : Type} (f : β → α → β) (n : β) (l : List α) (j : Nat) (hj : j ≤ l.length) (h9 : j ≤ 9) (h : ¬ (j < l.length ∧ j < 9)) : (l.take j).foldl f n = (l.take 9).foldl f n := by
  rcases Nat.lt_or_ge j 9 with h1 | h1
  · have : j = l.length := by omega
    subst this
    rw [List.take_of_length_le (Nat.le_refl _), List.take_of_length_le (by omega)]
  · have : j = 9 := by omega
    rw [this]
set_option maxRecDepth 100000 in
set_option maxHeartbeats 2000000 in
theorem weighS_any (x : TxD) (B : Nat) (w : World) (hx : x.held w B) (hB : B ≤ w.heap.size) :
    Calls Try.prog 103 #[x.val] w fun e w' => e = .returned (.int .i64 (weighS x)) ∧ Below w.heap.size w w' := by
  have hW : Hid (weighS x = wrap64 (wrap64 ((x.proofs.take 9).foldl proofAdd ((x.sights.take 9).foldl sightAdd (wrap64 (wrap64 ((x.text.length : Int) + (x.args.length : Int)) + 1))) + (x.sights.length : Int)) + (x.proofs.length : Int))) := rfl
  obtain ⟨x1, x2, x3, x4, x5, x6, x7, x8, al, aA, ac, ss, sA, sc, ps, pA, pc⟩ := x
  dsimp only [TxD.val] at *
  obtain ⟨n0, hn0⟩ : ∃ n0, wrap64 (wrap64 ((x8.length : Int) + (al.length : Int)) + 1) = n0 := ⟨_, rfl⟩
  have hWo := hW.out
  rw [hn0] at hWo
  have HW := Lib.hid hWo
  clear hW hWo
  have HN0 := Lib.hid hn0
  clear hn0
  obtain ⟨hxa, hxs, hxp, ⟨hs0, hs1, hs2⟩, hxq, hxo⟩ := hx
  dsimp only at hxa hxs hxp hs0 hs1 hs2 hxq hxo
  clear hxa hxq hxo
  unfold maxLen at hs0 hs1 hs2
  go_enter Try.func103, Try.ntmps103
  go_wp2_with fail
  go_loopw [3, 4] (fun n i wr => ∃ (j : Nat) (m : Int), i = .int .i64 (j : Int) ∧ n = .int .i64 m ∧ m = (ss.take j).foldl sightAdd n0 ∧ j ≤ 9 ∧ j ≤ ss.length ∧ Blk wr w.heap.size 176 #[.int .i64 x1, .int .i64 x2, .int .i64 x3, .int .i64 x4, .int .i64 x5, .int .i64 x6, .int .i64 x7, .string (bs x8), .slice aA al.length ac, .slice sA ss.length sc, .slice pA ps.length pc] ∧ Below w.heap.size w wr) (fun _ i _ => ss.length - (intOf i).toNat)
  case atStart => exact ⟨0, _, rfl, rfl, by rw [List.take_zero, List.foldl_nil]; exact HN0.out, by omega, by omega, Blk.new _ _ _, (Below.refl _ _).alloc (Nat.le_refl _) _⟩
  case round =>
    obtain ⟨j, m, rfl, rfl, hm, hj9, hj, hBx, hbel⟩ := hrel
    have HM := Lib.hid hm
    clear hm
    have qa_7 : wr.cell? ⟨w.heap.size, 7, none⟩ = some (Value.string (bs x8)) := (hBx.cell 7).trans (show _ = some (Value.string (bs x8)) from rfl)
    have qa_8 : wr.cell? ⟨w.heap.size, 8, none⟩ = some (Value.slice aA al.length ac) := (hBx.cell 8).trans (show _ = some (Value.slice aA al.length ac) from rfl)
    have qa_9 : wr.cell? ⟨w.heap.size, 9, none⟩ = some (Value.slice sA ss.length sc) := (hBx.cell 9).trans (show _ = some (Value.slice sA ss.length sc) from rfl)
    have qa_10 : wr.cell? ⟨w.heap.size, 10, none⟩ = some (Value.slice pA ps.length pc) := (hBx.cell 10).trans (show _ = some (Value.slice pA ps.length pc) from rfl)
    have qb_9 : wr.drew.cell? ⟨w.heap.size, 9, none⟩ = some (Value.slice sA ss.length sc) := (hBx.drew.cell 9).trans (show _ = some (Value.slice sA ss.length sc) from rfl)
    have qb_10 : wr.drew.cell? ⟨w.heap.size, 10, none⟩ = some (Value.slice pA ps.length pc) := (hBx.drew.cell 10).trans (show _ = some (Value.slice pA ps.length pc) from rfl)
    by_cases hgo : j < ss.length ∧ j < 9
    · as_aux_lemma =>
      obtain ⟨hlt, h9⟩ := hgo
      have hji : (j : Int) < (ss.length : Int) := by omega
      have h9i : (j : Int) < 9 := by omega
      obtain ⟨b, off, rfl, hbB, hc⟩ := SightsL.at_ (Rd.below hxs (hbel.mono hB)) hlt
      have d0 : wr.cell? ⟨b, off + j * 16 + 9 + 5, none⟩ = some (.slice ss[j].cert.fa ss[j].cert.froms.length ss[j].cert.fc) := hc 14 _ rfl
      have d1 : wr.cell? ⟨b, off + j * 16 + 15, none⟩ = some (.slice ss[j].sa ss[j].seats.length ss[j].sc) := hc 15 _ rfl
      have d2 : wr.cell? ⟨b, off + j * 16 + 14, none⟩ = some (.slice ss[j].cert.fa ss[j].cert.froms.length ss[j].cert.fc) := hc 14 _ rfl
      have HS := Lib.hid (fold_take sightAdd n0 ss j hlt)
      have HA : Hid (sightAdd m ss[j] = wrap64 (wrap64 (wrap64 (m + (ss[j].cert.froms.length : Int)) + (ss[j].seats.length : Int)) + 9)) := rfl
      generalize ss[j] = y at *
      clear hc
      go_wp2_with fail
      as_aux_lemma =>
      go_quiet (fail)
      as_aux_lemma =>
      go_wp2_with fail
      go_roundw
      case rel => exact ⟨j + 1, _, by go_num, rfl, by rw [HS.out, ← HM.out, HA.out]; try simp only [IntWalk.i64_left], by omega, by omega, by first | exact hBx.drew | exact hBx | exact hBx.drewN _, by first | exact hbel.drew | exact hbel | exact hbel.drewN _⟩
      case measure => simp [intOf]; omega
    · obtain ⟨wo, rfl⟩ : ∃ wo : World, wo = wr := ⟨_, rfl⟩
      have HO := Lib.hid (HM.out.trans (fold_take9 sightAdd n0 ss j hj hj9 hgo))
      clear HM
      have key : ∀ (P : Prop), (¬ ((j : Int) < (ss.length : Int)) → P) → (((j : Int) < (ss.length : Int)) → ¬ ((j : Int) < 9) → P) → P := by
        intro P h1 h2
        by_cases a : (j : Int) < (ss.length : Int)
        · exact h2 a (fun c => hgo ⟨by omega, by omega⟩)
        · exact h1 a
      clear hgo
      refine key _ (fun hji => ?_) (fun hji h9 => ?_)
      all_goals
       as_aux_lemma =>
        clear key
        go_wp2_with fail
        go_loopw [3, 5] (fun n i wr => ∃ (j : Nat) (m2 : Int), i = .int .i64 (j : Int) ∧ n = .int .i64 m2 ∧ m2 = (ps.take j).foldl proofAdd m ∧ j ≤ 9 ∧ j ≤ ps.length ∧ Blk wr w.heap.size 176 #[.int .i64 x1, .int .i64 x2, .int .i64 x3, .int .i64 x4, .int .i64 x5, .int .i64 x6, .int .i64 x7, .string (bs x8), .slice aA al.length ac, .slice sA ss.length sc, .slice pA ps.length pc] ∧ Below w.heap.size w wr) (fun _ i _ => ps.length - (intOf i).toNat)
        case atStart => exact ⟨0, _, rfl, rfl, rfl, by omega, by omega, hBx, hbel⟩
        case round =>
         as_aux_lemma =>
          obtain ⟨k, m2, rfl, rfl, hm2, hk9, hk, hBy, hbel2⟩ := hrel
          have HM2 := Lib.hid hm2
          clear hm2
          have qc_9 : wr.cell? ⟨w.heap.size, 9, none⟩ = some (Value.slice sA ss.length sc) := (hBy.cell 9).trans (show _ = some (Value.slice sA ss.length sc) from rfl)
          have qc_10 : wr.cell? ⟨w.heap.size, 10, none⟩ = some (Value.slice pA ps.length pc) := (hBy.cell 10).trans (show _ = some (Value.slice pA ps.length pc) from rfl)
          have qd_9 : wr.drew.cell? ⟨w.heap.size, 9, none⟩ = some (Value.slice sA ss.length sc) := (hBy.drew.cell 9).trans (show _ = some (Value.slice sA ss.length sc) from rfl)
          have qd_10 : wr.drew.cell? ⟨w.heap.size, 10, none⟩ = some (Value.slice pA ps.length pc) := (hBy.drew.cell 10).trans (show _ = some (Value.slice pA ps.length pc) from rfl)
          by_cases hgo2 : k < ps.length ∧ k < 9
          · as_aux_lemma =>
            obtain ⟨hlt, h9⟩ := hgo2
            have hki : (k : Int) < (ps.length : Int) := by omega
            have h9k : (k : Int) < 9 := by omega
            obtain ⟨b, off, rfl, hbB, hc⟩ := ProofsL.at_ (Rd.below hxp (hbel2.mono hB)) hlt
            have d0 : wr.cell? ⟨b, off + k * 4, none⟩ = some (.slice ps[k].ta ps[k].turns.length ps[k].tc) := hc 0 _ rfl
            have d1 : wr.cell? ⟨b, off + k * 4 + 2, none⟩ = some (.string (bs ps[k].key)) := hc 2 _ rfl
            have d2 : wr.cell? ⟨b, off + k * 4 + 3, none⟩ = some (.string (bs ps[k].value)) := hc 3 _ rfl
            have HS2 := Lib.hid (fold_take proofAdd m ps k hlt)
            have HA2 : Hid (proofAdd m2 ps[k] = wrap64 (wrap64 (wrap64 (m2 + (ps[k].turns.length : Int)) + (ps[k].key.length : Int)) + (ps[k].value.length : Int))) := rfl
            generalize ps[k] = y at *
            clear hc
            go_wp2_with fail
            as_aux_lemma =>
            go_quiet (fail)
            as_aux_lemma =>
            go_wp2_with fail
            go_roundw
            case rel => exact ⟨k + 1, _, by go_num, rfl, by rw [HS2.out, ← HM2.out, HA2.out]; try simp only [IntWalk.i64_left], by omega, by omega, by first | exact hBy.drew | exact hBy | exact hBy.drewN _, by first | exact hbel2.drew | exact hbel2 | exact hbel2.drewN _⟩
            case measure => simp [intOf]; omega
          · have HO2 := Lib.hid (HM2.out.trans (fold_take9 proofAdd m ps k hk hk9 hgo2))
            clear HM2
            by_cases hki : (k : Int) < (ps.length : Int)
            · as_aux_lemma =>
              have h9k : ¬ (k : Int) < 9 := fun c => hgo2 ⟨by omega, by omega⟩
              clear hgo2
              go_wp2_with fail
              go_ret
              exact ⟨ret_int (by rw [HW.out, ← HO.out, ← HO2.out]; try simp only [IntWalk.i64_left]), hbel2⟩
            · clear hgo2
              go_wp2_with fail
              go_ret
              exact ⟨ret_int (by rw [HW.out, ← HO.out, ← HO2.out]; try simp only [IntWalk.i64_left]), hbel2⟩
set_option maxRecDepth 100000 in
set_option maxHeartbeats 1000000 in
theorem heavyS_any (l : List TxD) (A : Option Addr) (c B B1 : Nat) (w : World) (hr : TxsL w B1 A l) (hB1 : B1 ≤ w.heap.size) (hd : ∀ x ∈ l, x.held w B) (hB : B ≤ w.heap.size) (hm : l.length ≤ maxLen) :
    Calls Try.prog 36 #[.slice A l.length c] w fun e w' => e = .returned (.bool (heavyS l)) ∧ Below w.heap.size w w' := by
  have hH : Hid (heavyS l = decide (65536 < heavyW l (l.length : Int))) := rfl
  unfold maxLen at hm
  go_enter Try.func36, Try.ntmps36
  go_wp2_with fail
  go_loopw [3, 4] (fun n i wr => ∃ (j : Nat) (m : Int), i = .int .i64 (j : Int) ∧ n = .int .i64 m ∧ heavyW (l.drop j) m = heavyW l (l.length : Int) ∧ j ≤ l.length ∧ Below w.heap.size w wr) (fun _ i _ => l.length - (intOf i).toNat)
  case atStart => exact ⟨0, _, rfl, rfl, rfl, by omega, Below.refl _ _⟩
  case round =>
    obtain ⟨j, m, rfl, rfl, he, hj, hbel⟩ := hrel
    have HE := Lib.hid he
    clear he
    by_cases hlt : j < l.length
    · have hji : (j : Int) < (l.length : Int) := by omega
      by_cases hm2 : m ≤ 65536
      · obtain ⟨b, off, rfl, hbB, hc⟩ := TxsL.at_ (Rd.below hr (hbel.mono hB1)) hlt
        have hx := (hd l[j] (List.getElem_mem hlt)).below (hbel.mono hB)
        have HS := Lib.hid (heavyW_step l j m hlt hm2)
        generalize l[j] = x at *
        have d0 : wr.cell? ⟨b, off + j * 11, none⟩ = some (.int .i64 x.k) := hc 0 _ rfl
        have d1 : wr.cell? ⟨b, off + j * 11 + 1, none⟩ = some (.int .i64 x.f) := hc 1 _ rfl
        have d2 : wr.cell? ⟨b, off + j * 11 + 2, none⟩ = some (.int .i64 x.n) := hc 2 _ rfl
        have d3 : wr.cell? ⟨b, off + j * 11 + 3, none⟩ = some (.int .i64 x.p) := hc 3 _ rfl
        have d4 : wr.cell? ⟨b, off + j * 11 + 4, none⟩ = some (.int .i64 x.l) := hc 4 _ rfl
        have d5 : wr.cell? ⟨b, off + j * 11 + 5, none⟩ = some (.int .i64 x.t) := hc 5 _ rfl
        have d6 : wr.cell? ⟨b, off + j * 11 + 6, none⟩ = some (.int .i64 x.a) := hc 6 _ rfl
        have d7 : wr.cell? ⟨b, off + j * 11 + 7, none⟩ = some (.string (bs x.text)) := hc 7 _ rfl
        have d8 : wr.cell? ⟨b, off + j * 11 + 8, none⟩ = some (.slice x.aa x.args.length x.ac) := hc 8 _ rfl
        have d9 : wr.cell? ⟨b, off + j * 11 + 9, none⟩ = some (.slice x.sa x.sights.length x.sc) := hc 9 _ rfl
        have d10 : wr.cell? ⟨b, off + j * 11 + 10, none⟩ = some (.slice x.pa x.proofs.length x.pc) := hc 10 _ rfl
        clear hc
        have hsz := hbel.size
        go_wp2_with fail
        refine (weighS_any x B _ hx (by omega)).mono ?_
        rintro e w1 ⟨rfl, hb1⟩
        go_wp2_with fail
        go_roundw
        case rel => exact ⟨j + 1, _, by go_num, rfl, by (try rw [IntWalk.i64_left]); exact HS.out.symm.trans HE.out, by omega, hbel.trans (hb1.mono hsz)⟩
        case measure => simp [intOf]; omega
      · have HX := Lib.hid (heavyW_end l j m (by omega))
        have hmi : (65536 : Int) < m := by omega
        have hmj : ¬ m ≤ 65536 := hm2
        go_wp2_with fail
        go_ret
        exact ⟨ret_bool (by rw [hH.out, ← HE.out, HX.out]; simp [hmi]), hbel⟩
    · have hji : ¬ (j : Int) < (l.length : Int) := by omega
      have HX := Lib.hid (heavyW_end l j m (by omega))
      go_wp2_with fail
      go_ret
      exact ⟨ret_bool (by rw [hH.out, ← HE.out, HX.out]), hbel⟩
end Go.Proofs.Ytjmkcndjjfokiaa
