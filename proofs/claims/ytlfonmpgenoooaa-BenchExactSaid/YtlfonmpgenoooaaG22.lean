/- Of the texts Hq8. -/
import Derived.Test.YtlfonmpgenoooaaProg
import Derived.Test.YtlfonmpgenoooaaG20
import Derived.Test.YtlfonmpgenoooaaG21
import Derived.Test.YtlfonmpgenoooaaG17
import Derived.Maps.OwnOps
import Derived.Maps.OwnSet
set_option linter.unusedSimpArgs false
set_option linter.unusedVariables false
namespace Go.Proofs.Ytlfonmpgenoooaa
open Go Go.RowKit Go.Maps
set_option maxRecDepth 100000
theorem HV.hw {w : World} {g B : Nat} {l : List Seat} (H : HV w g B l) (h0 : 0 < l.length) (h8 : l.length ≤ 8) : ∃ rb c, HW w g B rb c l := by
 obtain ⟨gB, v, hd, hown⟩ := H
 rcases hown.2 with ⟨_, h⟩ | ⟨rb, c, cur, rfl, hBr, hrow, hnc, hcm, hcs, htk⟩
 ·omega
 ·exact ⟨rb, c, hd, gB, hBr, hcm, hnc, h8, ⟨cur, hrow, hcs, htk⟩⟩
theorem HV.below {w w' : World} {g B : Nat} {l : List Seat} (H : HV w g B l) (h : Below w.heap.size w w') : HV w' g B l := by
 obtain ⟨gB, v, hd, hown⟩ := H; exact ⟨gB, v, hd.below h hd.lt, own_below hown h⟩
theorem map_turn {w w' : World} {b n : Nat} {k : TypeId} {P : Program} {R : Value → Option (DataW Unit × List MemPlace)} {D : DataW Unit} (h : w.ownsMap P k R b n D) (e : w'.heap[b]? = w.heap[b]?) : w'.ownsMap P k R b n D := by
 obtain ⟨es, clock, h1, r⟩ := h; exact ⟨es, clock, e.trans h1, r⟩
theorem HV.turn {w w' : World} {g B : Nat} {l : List Seat} (H : HV w g B l) (h : ∀ k, k = g ∨ B ≤ k → k < w.heap.size → w'.heap[k]? = w.heap[k]?) : HV w' g B l := by
 obtain ⟨gB, v, hd, hown⟩ := H; refine ⟨gB, v, (h g (.inl rfl) hd.lt).trans hd, hown.1, ?_⟩
 rcases hown.2 with h0 | ⟨rb, c, cur, hv, hBr, hrow, r⟩
 ·exact .inl h0
 ·exact .inr ⟨rb, c, cur, hv, hBr, (h rb (.inr hBr) (Blk.lt (t := 38) (cs := cur) hrow)).trans hrow, r⟩
theorem law3m : Keyed Try.prog 3 := int_keyed Try.underlying3
theorem zero3m (w : World) : (zeroValue 3).run Try.prog w = .ok (.int .i64 0) w := by kernel_rfl
def SeenD (l : List Seat) (k : Nat) (D : DataW Unit) : Prop := IsMap D ∧ ∀ x : Int, D.atKey (.int .i64 x) (.lit (.int .i64 0)) = .lit (.int .i64 (cntTo l x k))
theorem cntTo_succ (l : List Seat) (x : Int) (k : Nat) (hk : k < l.length) : cntTo l x (k + 1) = cntTo l x k + if l[k].who = x then 1 else 0 := by
 unfold cntTo; rw [List.take_succ_eq_append_getElem hk, List.filter_append, List.length_append]
 congr 1
 by_cases h : l[k].who = x
 ·rw [if_pos h, List.filter_cons_of_pos (by simpa using h)]; rfl
 ·rw [if_neg h, List.filter_cons_of_neg (by simpa using h)]; rfl
theorem SeenD.step {l : List Seat} {k : Nat} {D : DataW Unit} (h : SeenD l k D) (hk : k < l.length) {c : Int} (hat : D.atKey (.int .i64 l[k].who) (.lit (.int .i64 0)) = .lit (.int .i64 c)) (hm : IsMap (D.put (.int .i64 l[k].who) (.lit (.int .i64 (c + 1))))) : SeenD l (k + 1) (D.put (.int .i64 l[k].who) (.lit (.int .i64 (c + 1)))) := by
 refine ⟨hm, fun x => ?_⟩; rw [cntTo_succ l x k hk]
 by_cases hx : l[k].who = x
 ·subst hx; rw [atKey_put_same (k := .int .i64 l[k].who) h.1 trivial, if_pos rfl]; rw [h.2] at hat; injection hat with hat
  injection hat with _ hat
  rw [← hat]; rfl
 ·rw [atKey_put_other (fun e => hx (by injection e with _ e; exact e.symm)), h.2, if_neg hx]; rfl
set_option maxHeartbeats 4000000 in
theorem pchoose_any (l : List Seat) (A : Option Addr) (c B0 : Nat) (w : World) (h : Seats w B0 A l) (hB0 : B0 ≤ w.heap.size) (hl : l.length < 65536) (hwide : ∀ s ∈ l, (Lit.int .i64 s.who).wf = true) :
    Calls Try.prog 4 #[.slice A l.length c] w fun e w' => ∃ v, e = .returned v ∧ w'.ownsRow w.heap.size 38 2 v (chooseS l).length (seatsCells (chooseS l)) ∧ Below w.heap.size w w' := by
  have hmm := @run_makeMap Try.prog
  go_enter Try.func4, Try.ntmps4
  go_wp2
  go_loopw [10] (fun x wr => ∃ (k : Nat) (D : DataW Unit), x = .int .i64 k ∧ k ≤ l.length ∧ HV wr w.heap.size (w.heap.size + 2) (heapTo l k) ∧ wr.ownsMap Try.prog 3 (plainElem Try.prog 3) (w.heap.size + 1) k D ∧ SeenD l k D ∧ Below w.heap.size w wr ∧ w.heap.size + 2 ≤ wr.heap.size) (fun i _ => l.length - (intOf i).toNat)
  case atStart =>
    refine ⟨0, .map [], rfl, Nat.zero_le _, ⟨by omega, .slice none 0 0, (Blk.new w 35 #[.slice none 0 0]).alloc _, World.ownsRow_nil _ _ _ _⟩, ?_, ⟨⟨[], rfl⟩, fun x => rfl⟩, ((Below.refl _ _).alloc (Nat.le_refl _) _).alloc (by simp) _, by simp⟩
    have := World.ownsMap_made (H := Unit) (w.alloc (.cells #[.slice none 0 0] 35)) Try.prog 3 (plainElem Try.prog 3)
    rw [show (w.alloc (.cells #[.slice none 0 0] 35)).heap.size = w.heap.size + 1 by simp] at this
    exact this
  case round =>
    obtain ⟨k, D, rfl, hk, Hv, hown, hD, hb, hsz⟩ := hrel
    by_cases hlt : k < l.length
    · obtain ⟨b, off, rfl, hbB, hc0, hc1⟩ := Seats.at_ (h.below (hb.mono hB0)) hlt
      have hkey : keyOf Try.prog 3 (.int .i64 l[k].who) = some (.int .i64 l[k].who) := keyOf_int_mk Try.underlying3 (hwide _ (List.getElem_mem hlt))
      have ha := hown.alloc (.cells #[.int .i64 l[k].who, .int .i64 l[k].weight] 38)
      obtain ⟨c0, hlk, hat, hwc⟩ := ha.lookup_int (t := 36) law3m Try.underlying36 Try.underlying3 (zero3m _) hkey
      have hcc : c0 = (cntTo l l[k].who k : Int) := by
        rw [hD.2] at hat
        injection hat with hat
        injection hat with _ hat
        exact hat.symm
      have hcl : cntTo l l[k].who k ≤ l.length := by
        unfold cntTo
        exact Nat.le_trans (List.length_filter_le _ _) (by rw [List.length_take]; omega)
      have hw1 : IntKind.i64.wrap (c0 + 1) = c0 + 1 := by rw [IntKind.wrap_i64]; omega
      have hwf : (Lit.int .i64 (c0 + 1)).wf = true := by have := wrap64_wf (c0 + 1); rwa [show wrap64 (c0 + 1) = c0 + 1 by unfold wrap64; omega] at this
      have hli : (k : Int) < (l.length : Int) := by omega
      have HCC : Hid (c0 = (cntTo l l[k].who k : Int)) := hcc
      have hc0l : 0 ≤ c0 ∧ c0 < 65536 := by omega
      clear hcc hcl
      by_cases hso : seatOk l[k] = true
      · by_cases hcp : 0 < c0
        · have hcg : (1 : Int) < c0 + 1 := by omega
          go_wp2_with (first
            | (at_mapUpdate; refine wpList_mapUpdate_own _ rfl _ _ _ 36 rfl 3 3 law3m Try.underlying36 _ (w.heap.size + 1) k _ rfl ha (by unfold maxLen; omega) _ _ _ rfl rfl hkey _ [] (plainElem_int Try.underlying3 hwf) ?_
               intro w1 hown1 hgrow1
               have hs1 := (Blk.new wr 38 #[.int .i64 l[k].who, .int .i64 l[k].weight]).grown hgrow1 (fun e => by injection e with e; omega)
               have p10 := hs1.cell 0
               have p11 := hs1.cell 1
               have p10 : w1.cell? ⟨wr.heap.size, 0, none⟩ = some (.int .i64 l[k].who) := p10
               have p11 : w1.cell? ⟨wr.heap.size, 1, none⟩ = some (.int .i64 l[k].weight) := p11
               have Hv1 := (Hv.below (Below.refl _ _ |>.alloc (Nat.le_refl _) (.cells #[.int .i64 l[k].who, .int .i64 l[k].weight] 38))).turn (fun q hq hlq => hgrow1.block q hlq (fun e => by injection e with e; omega))
               have hb1 : Below w.heap.size w w1 := (hb.alloc (by omega) _).grown hgrow1 (by simp; omega) (fun q hq => by injection hq with hq; omega)
               have hz1 := hgrow1.size
               have hz1' : wr.heap.size + 1 ≤ w1.heap.size := by simpa using hz1))
          refine (seat_any l[k] _).mono ?_
          rintro e w2 ⟨rfl, hb2⟩
          have hs2 := hs1.below hb2 hs1.lt
          have p20 : w2.cell? ⟨wr.heap.size, 0, none⟩ = some (.int .i64 l[k].who) := hs2.cell 0
          have p21 : w2.cell? ⟨wr.heap.size, 1, none⟩ = some (.int .i64 l[k].weight) := hs2.cell 1
          have Hv2 := Hv1.below hb2
          have hown2 := map_turn (D := D.put (.int .i64 l[k].who) (.lit (.int .i64 (c0 + 1)))) hown1 (hb2.block _ hown1.lt)
          have hb02 := hb1.trans (hb2.mono (by omega))
          have hz2 := hb2.size
          obtain ⟨c2, hlk2, hat2, _⟩ := hown2.lookup_int (t := 36) law3m Try.underlying36 Try.underlying3 (zero3m _) hkey
          have hc2 : c2 = c0 + 1 := by
            rw [atKey_put_same (k := .int .i64 l[k].who) hD.1 trivial] at hat2
            injection hat2 with hat2
            injection hat2 with _ hat2
            exact hat2.symm
          rw [hc2] at hlk2
          clear hc2 hat2
          dsimp only
          go_wp2_with fail
          have hnf : firstOf l l[k].who k = false := by
            rw [Bool.eq_false_iff, ne_eq, ← cntTo_zero]
            have := HCC.out
            omega
          go_roundw
          case rel =>
            have hH : heapTo l (k + 1) = heapTo l k := by
              rw [heapTo_succ l k hlt]
              rw [hnf]; rfl
            exact ⟨k + 1, _, by go_num, by omega, by rw [hH]; exact Hv2, hown2, hD.step hlt hat hown2.isMap, hb02, by omega⟩
          case measure => simp [intOf]; omega
        · have hcg : ¬ (1 : Int) < c0 + 1 := by omega
          go_wp2_with (first
            | (at_mapUpdate; refine wpList_mapUpdate_own _ rfl _ _ _ 36 rfl 3 3 law3m Try.underlying36 _ (w.heap.size + 1) k _ rfl ha (by unfold maxLen; omega) _ _ _ rfl rfl hkey _ [] (plainElem_int Try.underlying3 hwf) ?_
               intro w1 hown1 hgrow1
               have hs1 := (Blk.new wr 38 #[.int .i64 l[k].who, .int .i64 l[k].weight]).grown hgrow1 (fun e => by injection e with e; omega)
               have p10 := hs1.cell 0
               have p11 := hs1.cell 1
               have p10 : w1.cell? ⟨wr.heap.size, 0, none⟩ = some (.int .i64 l[k].who) := p10
               have p11 : w1.cell? ⟨wr.heap.size, 1, none⟩ = some (.int .i64 l[k].weight) := p11
               have Hv1 := (Hv.below (Below.refl _ _ |>.alloc (Nat.le_refl _) (.cells #[.int .i64 l[k].who, .int .i64 l[k].weight] 38))).turn (fun q hq hlq => hgrow1.block q hlq (fun e => by injection e with e; omega))
               have hb1 : Below w.heap.size w w1 := (hb.alloc (by omega) _).grown hgrow1 (by simp; omega) (fun q hq => by injection hq with hq; omega)
               have hz1 := hgrow1.size
               have hz1' : wr.heap.size + 1 ≤ w1.heap.size := by simpa using hz1))
          refine (seat_any l[k] _).mono ?_
          rintro e w2 ⟨rfl, hb2⟩
          have hs2 := hs1.below hb2 hs1.lt
          have p20 : w2.cell? ⟨wr.heap.size, 0, none⟩ = some (.int .i64 l[k].who) := hs2.cell 0
          have p21 : w2.cell? ⟨wr.heap.size, 1, none⟩ = some (.int .i64 l[k].weight) := hs2.cell 1
          have Hv2 := Hv1.below hb2
          have hown2 := map_turn (D := D.put (.int .i64 l[k].who) (.lit (.int .i64 (c0 + 1)))) hown1 (hb2.block _ hown1.lt)
          have hb02 := hb1.trans (hb2.mono (by omega))
          have hz2 := hb2.size
          obtain ⟨c2, hlk2, hat2, _⟩ := hown2.lookup_int (t := 36) law3m Try.underlying36 Try.underlying3 (zero3m _) hkey
          have hc2 : c2 = c0 + 1 := by
            rw [atKey_put_same (k := .int .i64 l[k].who) hD.1 trivial] at hat2
            injection hat2 with hat2
            injection hat2 with _ hat2
            exact hat2.symm
          rw [hc2] at hlk2
          clear hc2 hat2
          dsimp only
          go_wp2_with fail
          have hfo : firstOf l l[k].who k = true := by
            rw [← cntTo_zero]
            have := HCC.out
            omega
          refine (hpush_hv w.heap.size (w.heap.size + 2) (heapTo l k) l[k] w2 Hv2 (heap_len l k hk) (by omega)).mono ?_
          rintro e w3 ⟨rfl, ⟨rb, cc, H3⟩, T3⟩
          dsimp only
          have hg3 := H3.cell
          have hown3 := map_turn hown2 (T3.mid (w.heap.size + 1) (by omega) (by omega))
          have hb03 := hb02.trans T3.low
          have hz3 := T3.size
          by_cases h7 : 7 < (pushL (heapTo l k) l[k]).length
          · have h7i : (7 : Int) < ((pushL (heapTo l k) l[k]).length : Int) := by omega
            go_wp2_with fail
            refine (hpop_hw H3 (by omega)).mono ?_
            rintro e w4 ⟨⟨v4, rfl⟩, H4, T4⟩
            dsimp only
            have hz4 := T4.size
            go_wp2_with fail
            go_roundw
            case rel =>
              have hH : heapTo l (k + 1) = popL (pushL (heapTo l k) l[k]) := by
                rw [heapTo_succ l k hlt, hfo, hso]
                exact if_pos h7
              exact ⟨k + 1, _, by go_num, by omega, by rw [hH]; exact HV.of H4, map_turn hown3 (T4.mid (w.heap.size + 1) (by omega) (by omega)), hD.step hlt hat hown2.isMap, hb03.trans T4.low, by omega⟩
            case measure => simp [intOf]; omega
          · have h7i : ¬ (7 : Int) < ((pushL (heapTo l k) l[k]).length : Int) := by omega
            go_wp2_with fail
            go_roundw
            case rel =>
              have hH : heapTo l (k + 1) = pushL (heapTo l k) l[k] := by
                rw [heapTo_succ l k hlt, hfo, hso]
                exact if_neg h7
              exact ⟨k + 1, _, by go_num, by omega, by rw [hH]; exact HV.of H3, hown3, hD.step hlt hat hown2.isMap, hb03, by omega⟩
            case measure => simp [intOf]; omega
      · have hso : seatOk l[k] = false := by simpa using hso
        go_wp2_with (first
          | (at_mapUpdate; refine wpList_mapUpdate_own _ rfl _ _ _ 36 rfl 3 3 law3m Try.underlying36 _ (w.heap.size + 1) k _ rfl ha (by unfold maxLen; omega) _ _ _ rfl rfl hkey _ [] (plainElem_int Try.underlying3 hwf) ?_
             intro w1 hown1 hgrow1
             have hs1 := (Blk.new wr 38 #[.int .i64 l[k].who, .int .i64 l[k].weight]).grown hgrow1 (fun e => by injection e with e; omega)
             have p10 := hs1.cell 0
             have p11 := hs1.cell 1
             have p10 : w1.cell? ⟨wr.heap.size, 0, none⟩ = some (.int .i64 l[k].who) := p10
             have p11 : w1.cell? ⟨wr.heap.size, 1, none⟩ = some (.int .i64 l[k].weight) := p11
             have Hv1 := (Hv.below (Below.refl _ _ |>.alloc (Nat.le_refl _) (.cells #[.int .i64 l[k].who, .int .i64 l[k].weight] 38))).turn (fun q hq hlq => hgrow1.block q hlq (fun e => by injection e with e; omega))
             have hb1 : Below w.heap.size w w1 := (hb.alloc (by omega) _).grown hgrow1 (by simp; omega) (fun q hq => by injection hq with hq; omega)
             have hz1 := hgrow1.size
             have hz1' : wr.heap.size + 1 ≤ w1.heap.size := by simpa using hz1))
        refine (seat_any l[k] _).mono ?_
        rintro e w2 ⟨rfl, hb2⟩
        have hs2 := hs1.below hb2 hs1.lt
        have p20 : w2.cell? ⟨wr.heap.size, 0, none⟩ = some (.int .i64 l[k].who) := hs2.cell 0
        have p21 : w2.cell? ⟨wr.heap.size, 1, none⟩ = some (.int .i64 l[k].weight) := hs2.cell 1
        have Hv2 := Hv1.below hb2
        have hown2 := map_turn (D := D.put (.int .i64 l[k].who) (.lit (.int .i64 (c0 + 1)))) hown1 (hb2.block _ hown1.lt)
        have hb02 := hb1.trans (hb2.mono (by omega))
        have hz2 := hb2.size
        obtain ⟨c2, hlk2, hat2, _⟩ := hown2.lookup_int (t := 36) law3m Try.underlying36 Try.underlying3 (zero3m _) hkey
        have hc2 : c2 = c0 + 1 := by
          rw [atKey_put_same (k := .int .i64 l[k].who) hD.1 trivial] at hat2
          injection hat2 with hat2
          injection hat2 with _ hat2
          exact hat2.symm
        rw [hc2] at hlk2
        clear hc2 hat2
        dsimp only
        go_wp2_with fail
        go_roundw
        case rel =>
          have hH : heapTo l (k + 1) = heapTo l k := by
            rw [heapTo_succ l k hlt]
            rw [hso, Bool.and_false]; rfl
          exact ⟨k + 1, _, by go_num, by omega, by rw [hH]; exact Hv2, hown2, hD.step hlt hat hown2.isMap, hb02, by omega⟩
        case measure => simp [intOf]; omega
    · have hkl : k = l.length := by omega
      subst hkl
      have hli : ¬ (l.length : Int) < (l.length : Int) := by omega
      by_cases hz : (heapTo l l.length).length = 0
      · obtain ⟨gB, v, hd, hrow⟩ := Hv
        obtain ⟨A1, c1, rfl⟩ := own_shape hrow
        rw [hz] at hd
        have hg : wr.cell? ⟨w.heap.size, 0, none⟩ = some (.slice A1 0 c1) := hd.cell 0
        have hcs : chooseS l = [] := by
          have := sortTo_same l
          rw [List.eq_nil_of_length_eq_zero hz] at this
          exact this.symm
        have HC : Hid (chooseS l = []) := hcs
        have HR : Hid (wr.ownsRow (w.heap.size + 2) 38 2 (.slice A1 0 c1) 0 []) := by
          rw [hz, List.eq_nil_of_length_eq_zero hz] at hrow
          exact hrow
        clear hz hcs hrow
        go_wp2_with fail
        refine (sort_nil _ _ _).mono ?_
        rintro e w2 ⟨rfl, rfl⟩
        dsimp only
        go_wp2_with fail
        go_ret
        exact ⟨_, rfl, by rw [HC.out]; exact own_mono HR.out (by omega), hb⟩
      · obtain ⟨rb, cc, H⟩ := Hv.hw (by omega) (by have := heap_len l l.length (Nat.le_refl _); omega)
        have hg := H.cell
        go_wp2_with fail
        refine (sort_hw H (by omega)).mono ?_
        rintro e w2 ⟨rfl, H2, T2⟩
        dsimp only
        rw [sortTo_same l] at H2
        have hg2 := H2.cell
        have HC : Hid (sortTo (heapTo l l.length) (heapTo l l.length).length = chooseS l) := sortTo_same l
        go_wp2_with fail
        go_ret
        obtain ⟨cur, hb2, hs2, ht2⟩ := H2.row
        exact ⟨_, rfl, ⟨seatsCells_length _, .inr ⟨rb, cc, cur, rfl, by have := H2.Br; omega, hb2, H2.lc, H2.cm, hs2, ht2⟩⟩, hb.trans T2.low⟩
end Go.Proofs.Ytlfonmpgenoooaa
