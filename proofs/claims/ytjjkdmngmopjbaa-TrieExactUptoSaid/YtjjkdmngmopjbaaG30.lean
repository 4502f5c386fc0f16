/- Of the texts Tri20. -/
import Derived.Test.YtjjkdmngmopjbaaProg
import Derived.Test.YtjjkdmngmopjbaaG09
import Derived.Test.YtjjkdmngmopjbaaG22
import Derived.Test.YtjjkdmngmopjbaaG26
import Derived.Test.YtjjkdmngmopjbaaG29
import Derived.Deep.RegionHeld3
import Derived.Deep.Cut
namespace Go.Proofs.Ytjjkdmngmopjbaa
open Go.RowKit
theorem own_dr {w : World} {base : Nat} {e : TypeId} {size n : Nat} {v : Value} {xs : List Value} (h : w.ownsRow base e size v n xs) : w.drew.ownsRow base e size v n xs := h
theorem turnInfo : (Try.prog.info? 141).map (fun i => (i.zero, i.size, i.bytes)) = some (some (.agg #[.int .i64 0, .int .u64 0]), 2, 16) := by kernel_rfl
def turnCells (l : List TurnD) : List Value := l.flatMap TurnD.cells
set_option maxRecDepth 100000 in
set_option maxHeartbeats 8000000 in
theorem prove_any (wd : Int) (k : Key) (t : Tr) (q : Nat) (w : World) (hk : k.length ≤ 32) (hlow : lowT t) (hd : (turnsT wd k t).length ≤ 1000000000) (h : TrR wd w w.heap.size t q) :
    Calls Try.prog 24 #[treeV wd (some ⟨q, 0, none⟩), .string (bs k)] w fun e w' => ∃ x : ProofD, e = .returned (.tuple #[x.val, .int .i64 0]) ∧ x.turns = turnsT wd k t ∧ x.leaf = true ∧ x.key = (t.find k).1 ∧ x.value = (t.find k).2 ∧ x.held w' w'.heap.size ∧ Below w.heap.size w w' := by
  have hR : Hid (∃ t' : Tr, TrR wd w w.heap.size t' q ∧ lowT t' ∧ t'.find k = t.find k ∧ [] ++ turnsT wd k t' = turnsT wd k t) := ⟨t, h, hlow, rfl, rfl⟩
  obtain ⟨i0, hi0, hz0, hz1, hz2⟩ := info_parts turnInfo
  clear h hlow
  have hkd : decide ((32 : Int) < (k.length : Int)) = false := decide_eq_false (by omega)
  unfold treeV
  go_enter Try.func24, Try.ntmps24
  go_wp2_with fail
  obtain ⟨w0, hw0⟩ : ∃ x : World, x = ((w.alloc (.cells #[.int .i64 wd, .pointer (some ⟨q, 0, none⟩)] 53)).alloc (.cells #[.slice none 0 0, .bool false, .string (bs []), .string (bs [])] 70)).alloc (.cells #[.slice none 0 0, .bool false, .string (bs []), .string (bs [])] 70) := ⟨_, rfl⟩
  have hP : Blk w0 (w.heap.size + 1 + 1) 70 #[.slice none 0 0, .bool false, .string (bs []), .string (bs [])] := by
    rw [hw0]; simpa using Blk.new ((w.alloc (.cells #[.int .i64 wd, .pointer (some ⟨q, 0, none⟩)] 53)).alloc (.cells #[.slice none 0 0, .bool false, .string (bs []), .string (bs [])] 70)) 70 #[.slice none 0 0, .bool false, .string (bs []), .string (bs [])]
  have hA : Blk w0 (w.heap.size + 1) 70 #[.slice none 0 0, .bool false, .string (bs []), .string (bs [])] := by
    rw [hw0]; simpa using (Blk.new (w.alloc (.cells #[.int .i64 wd, .pointer (some ⟨q, 0, none⟩)] 53)) 70 #[.slice none 0 0, .bool false, .string (bs []), .string (bs [])]).alloc _
  have hB : Below w.heap.size w w0 := by
    rw [hw0]; exact ((((Below.refl _ _).alloc (Nat.le_refl _) _).alloc (by simp) _).alloc (by simp; omega) _)
  have hN : Hid (w0.heap.size = w.heap.size + 3) := by show _ = _; rw [hw0]; simp
  go_loopw [6] (fun n wr => ∃ (q' : Nat) (pre : List TurnD) (v : Value), n = .pointer (some ⟨q', 0, none⟩) ∧ Blk wr (w.heap.size + 1 + 1) 70 #[v, .bool false, .string (bs []), .string (bs [])] ∧ Blk wr (w.heap.size + 1) 70 #[.slice none 0 0, .bool false, .string (bs []), .string (bs [])] ∧ wr.ownsRow (w.heap.size + 3) 141 2 v pre.length (turnCells pre) ∧ Below w.heap.size w wr ∧ w.heap.size + 3 ≤ wr.heap.size ∧ Hid (∃ t' : Tr, TrR wd w w.heap.size t' q' ∧ lowT t' ∧ t'.find k = t.find k ∧ pre ++ turnsT wd k t' = turnsT wd k t)) (fun n _ => ptrNo n)
  case atStart => subst hw0; exact ⟨q, [], .slice none 0 0, rfl, hP, hA, World.ownsRow_nil _ _ _ _, hB, by simp <;> omega, hR⟩
  case round =>
    obtain ⟨q', pre, v, rfl, hP', hA', hown, hB', hn', hR'⟩ := hrel
    clear hR hP hA hB hN hw0
    obtain ⟨t', ht, hlow', hf, hpre⟩ := hR'
    have hpos := (ht.below hB').pos
    cases t' with
    | leaf a b =>
      have hblk1 := ht.2.below hB' ht.1
      unfold posT at hpos
      have hcS : ∀ W, Below w.heap.size w W → (W.cell? ⟨q', 0, none⟩ = some (.string (bs a)) ∧ W.cell? ⟨q', 1, none⟩ = some (.string (bs b))) ∧ Below w.heap.size w W := fun W hb => ⟨⟨((ht.2.below hb ht.1).cell 0).trans rfl, ((ht.2.below hb ht.1).cell 1).trans rfl⟩, hb⟩
      have hkv : Hid ((t.find k).1 = a ∧ (t.find k).2 = b ∧ pre = turnsT wd k t) := by show _ ∧ _; rw [← hf, ← hpre, turnsT]; simp [Tr.find]
      obtain ⟨A, c, rfl⟩ := own_shape hown
      clear hf hpre hlow' hblk1
      have c0 := (hP'.cell 0).trans (show _ = some (Value.slice A pre.length c) from rfl)
      have c1 := (hP'.cell 1).trans (show _ = some (Value.bool false) from rfl)
      have c2 := (hP'.cell 2).trans (show _ = some (Value.string (bs [])) from rfl)
      have c3 := (hP'.cell 3).trans (show _ = some (Value.string (bs [])) from rfl)
      have f := hP'.frozen
      have fA := hA'.frozen
      have a0 := (hA'.cell 0).trans (show _ = some (Value.slice none 0 0) from rfl)
      have a1 := (hA'.cell 1).trans (show _ = some (Value.bool false) from rfl)
      have a2 := (hA'.cell 2).trans (show _ = some (Value.string (bs [])) from rfl)
      have a3 := (hA'.cell 3).trans (show _ = some (Value.string (bs [])) from rfl)
      go_wp2_with fail
      go_region_held3 (fun W => (W.cell? ⟨q', 0, none⟩ = some (.string (bs a)) ∧ W.cell? ⟨q', 1, none⟩ = some (.string (bs b))) ∧ Below w.heap.size w W) (refine hcS _ ?_ <;> first | exact hB'.drew | exact (Below.setCell hB' (by dsimp only; omega) _).drew | exact (Below.setCell (Below.setCell hB' (by dsimp only; omega) _) (by dsimp only; omega) _).drew | exact (Below.setCell (Below.setCell (Below.setCell hB' (by dsimp only; omega) _) (by dsimp only; omega) _) (by dsimp only; omega) _).drew) (fail)
      all_goals
        go_wp2_with fail
        obtain ⟨e1, e2, e3⟩ := hkv.out
        have hlen : pre.length ≤ maxLen := by rw [e3]; unfold maxLen; omega
        have hok : ∀ x ∈ pre, x.ok := by rw [e3]; exact turnsT_ok wd k t
        refine bodyPost_ret (v := .tuple #[.agg #[.slice A pre.length c, .bool true, .string (bs a), .string (bs b)], .int .i64 0]) (by simp [results, Try.results24, go_sem, a0, a1, a2, a3]) rfl ?_
        refine ⟨⟨pre, A, c, true, a, b⟩, rfl, e3, rfl, e1.symm, e2.symm, ⟨Rd.of_own (e := 141) (base := w.heap.size + 3) (c := c) ?_, hlen, hok⟩, ?_⟩
        · repeat (first | with_reducible refine own_set ?_ (by dsimp only; omega) _ | with_reducible refine own_dr ?_)
          exact hown
        · repeat (first | with_reducible refine Below.setCell ?_ (by dsimp only; omega) _ | with_reducible refine Below.drew ?_)
          exact hB'
    | fork p l r =>
      obtain ⟨hq, a, b, hblk, hl, hr⟩ := ht
      obtain ⟨hp, hll, hlr⟩ := hlow'
      unfold posT at hpos
      have hge : decide ((0 : Int) ≤ (p : Int)) = true := decide_eq_true (by omega)
      have hblk1 := hblk.below hB' hq
      have h3 := (hblk1.cell 3).trans (show _ = some (Value.pointer (some ⟨a, 0, none⟩)) from rfl)
      have h4 := (hblk1.cell 4).trans (show _ = some (Value.pointer (some ⟨b, 0, none⟩)) from rfl)
      have hal := hl.lt
      have hbl := hr.lt
      have hpl : pre.length + 1 ≤ 1000000000 := by
        have := congrArg List.length hpre
        simp only [List.length_append] at this
        have h1 : 1 ≤ (turnsT wd k (.fork p l r)).length := by rw [turnsT]; split <;> simp
        omega
      have hfk : (Tr.fork p l r).find k = if bitB k p then r.find k else l.find k := rfl
      rw [hfk] at hf
      rw [turnsT] at hpre
      clear hfk
      have hc := fun W => bit_any k p W (by omega) (by omega)
      have hside := fun W g2 g3 g4 => side_any k p a b q' W (by omega) hp g2 g3 g4
      have hN : bitN k p = if bitB k p then 1 else 0 := rfl
      rw [hN] at hc
      clear hN
      generalize hbb : bitB k p = bb at *
      clear hbb
      cases bb with
      | true =>
        simp only [Bool.false_eq_true, if_false, if_true] at hc hf hpre hside
        have hdg := digT_bd wd l
        have hcell : ∀ W, Below w.heap.size w W → W.cell? ⟨q', 2, none⟩ = some (.int .i64 (p : Int)) ∧ W.cell? ⟨a, 5, none⟩ = some (.int .u64 (digT wd l)) := fun W hb => ⟨((hblk.below hb hq).cell 2).trans rfl, (hl.below (hb.mono (by omega))).dig⟩
        have hnext : Hid (∃ t' : Tr, TrR wd w w.heap.size t' b ∧ lowT t' ∧ t'.find k = t.find k ∧ (pre ++ [⟨(p : Int), digT wd l⟩]) ++ turnsT wd k t' = turnsT wd k t) := ⟨r, hr.more (by omega), hlr, hf, by rw [← hpre]; simp⟩
        have hsm := hside
        clear hf hpre hl hr hll hlr hside
        generalize digT wd l = dg at *
        go_wp2_with fail
        refine (hc _).mono ?_
        rintro e w1 ⟨rfl, rfl⟩
        go_wp2_with fail
        have hgw := hB'.size
        have c0 := (hP'.cell 0).trans (show _ = some v from rfl)
        have f0 := hP'.frozen 0
        have hcA := hcell _ (hB'.drew)
        refine wp_region_held_drew (S := fun W' => W'.cell? ⟨q', 2, none⟩ = some (.int .i64 (p : Int)) ∧ W'.cell? ⟨a, 5, none⟩ = some (.int .u64 dg)) (by kernel_rfl) hcA (fun hHeld => ?_)
        refine wpAnyH_take (i := 0) (v := ?_) rfl (by kernel_rfl) (by kernel_rfl) (by kernel_rfl) (fun _ _ _ h => h) (Or.inl ⟨by rfl, ?_⟩) (by assumption) ?_
        rotate_left
        · intro w' hSw
          (try dsimp only at hSw)
          go_simp
          try with_reducible rfl
        try simp only [Act.put, List.setIfInBounds_toArray, List.set_cons_zero, List.set_cons_succ]
        refine wpAnyH_take (i := 2) (v := ?_) rfl (by kernel_rfl) (by kernel_rfl) (by kernel_rfl) (fun _ _ _ h => h) (Or.inl ⟨by rfl, ?_⟩) (by assumption) ?_
        rotate_left
        · intro w' hSw
          (try dsimp only at hSw)
          go_simp
          try with_reducible rfl
        try simp only [Act.put, List.setIfInBounds_toArray, List.set_cons_zero, List.set_cons_succ]
        refine wpAnyH_take (i := 3) (v := ?_) rfl (by kernel_rfl) (by kernel_rfl) (by kernel_rfl) (fun _ _ _ h => h) (Or.inl ⟨by rfl, ?_⟩) (by assumption) ?_
        rotate_left
        · intro w' hSw
          (try dsimp only at hSw)
          go_simp
          try with_reducible rfl
        try simp only [Act.put, List.setIfInBounds_toArray, List.set_cons_zero, List.set_cons_succ]
        refine wpAnyH_take (i := 4) (v := ?_) rfl (by kernel_rfl) (by kernel_rfl) (by kernel_rfl) (fun _ _ _ h => h) (Or.inl ⟨by rfl, ?_⟩) (by assumption) ?_
        rotate_left
        · intro w' hSw
          (try dsimp only at hSw)
          go_simp
          try with_reducible rfl
        try simp only [Act.put, List.setIfInBounds_toArray, List.set_cons_zero, List.set_cons_succ]
        refine wpAnyH_take (i := 5) (v := ?_) rfl (by kernel_rfl) (by kernel_rfl) (by kernel_rfl) (fun _ _ _ h => h) (Or.inl ⟨by rfl, ?_⟩) (by assumption) ?_
        rotate_left
        · intro w' hSw
          (try dsimp only at hSw)
          go_simp
          try with_reducible rfl
        try simp only [Act.put, List.setIfInBounds_toArray, List.set_cons_zero, List.set_cons_succ]
        refine wpAnyH_take (i := 6) (v := ?_) rfl (by kernel_rfl) (by kernel_rfl) (by kernel_rfl) (fun _ _ _ h => h) (Or.inl ⟨by rfl, ?_⟩) (by assumption) ?_
        rotate_left
        · intro w' hSw
          (try dsimp only at hSw)
          go_simp
          try with_reducible rfl
        try simp only [Act.put, List.setIfInBounds_toArray, List.set_cons_zero, List.set_cons_succ]
        refine wpAnyH_take (i := 7) (v := ?_) rfl (by kernel_rfl) (by kernel_rfl) (by kernel_rfl) (fun _ _ _ h => h) (Or.inl ⟨by rfl, ?_⟩) (by assumption) ?_
        rotate_left
        · intro w' hSw
          (try dsimp only at hSw)
          go_simp
          try with_reducible rfl
        try simp only [Act.put, List.setIfInBounds_toArray, List.set_cons_zero, List.set_cons_succ]
        refine wpAnyH_take (i := 8) (v := ?_) rfl (by kernel_rfl) (by kernel_rfl) (by kernel_rfl) (fun _ _ _ h => h) (Or.inl ⟨by rfl, ?_⟩) (by assumption) ?_
        rotate_left
        · intro w' hSw
          (try dsimp only at hSw)
          go_simp
          try with_reducible rfl
        try simp only [Act.put, List.setIfInBounds_toArray, List.set_cons_zero, List.set_cons_succ]
        refine wpAnyH_take (i := 9) (v := ?_) rfl (by kernel_rfl) (by kernel_rfl) (by kernel_rfl) (fun _ _ _ h => h) (Or.inl ⟨by rfl, ?_⟩) (by assumption) ?_
        rotate_left
        · intro w' hSw
          (try dsimp only at hSw)
          go_simp
          try with_reducible rfl
        try simp only [Act.put, List.setIfInBounds_toArray, List.set_cons_zero, List.set_cons_succ]
        refine wpAnyH_take (i := 10) (v := ?_) rfl (by kernel_rfl) (by kernel_rfl) (by kernel_rfl) (fun _ _ _ h => h) (Or.inl ⟨by rfl, ?_⟩) (by assumption) ?_
        rotate_left
        · intro w' hSw
          (try dsimp only at hSw)
          go_simp
          try with_reducible rfl
        try simp only [Act.put, List.setIfInBounds_toArray, List.set_cons_zero, List.set_cons_succ]
        refine wpAnyH_ready (rs := [1, 11]) (by kernel_rfl) (by simp) ?_
        refine AllReadyH.cons rfl (fun K hK => ?_) (AllReadyH.cons rfl (fun K hK => ?_) AllReadyH.nil)
        · go_simp
          refine hK.out _ _ hcA (fun _ => ?_)
          clear hK K
          try simp only [Act.put, List.setIfInBounds_toArray, List.set_cons_zero, List.set_cons_succ]
          refine wpAnyH_ready (rs := [11]) (by kernel_rfl) (by simp) ?_
          refine AllReadyH.cons rfl (fun K hK => ?_) AllReadyH.nil
          go_simp
          refine hK.out _ _ (hcell _ (hB'.drew.alloc (Nat.le_trans hgw (Nat.le_refl _)) (.cells #[.int .i64 (p : Int), .int .u64 dg] 141))) (fun _ => ?_)
          clear hK K
          try simp only [Act.put, List.setIfInBounds_toArray, List.set_cons_zero, List.set_cons_succ]
          refine wpAnyH_ready (rs := [12]) (by kernel_rfl) (by simp) ?_
          refine AllReadyH.cons rfl (fun K hK => ?_) AllReadyH.nil
          refine step_append_any _ (by rfl) (.tmp 39) (.tmp 49) 68 (by rfl) (w.heap.size + 3) 141 i0 _ 2 16 Try.underlying68 hi0 hz0 hz1 hz2 rfl (by omega) v pre.length _ (by rfl) (World.ownsRow.alloc (w := wr.drew) hown _) (wr.heap.size + 1) _ 1 1 [.int .i64 (p : Int), .int .u64 dg] (by rfl) (Rd.laid wr.drew #[.int .i64 (p : Int), .int .u64 dg] 141 2 1 rfl) (fun u hu => by simp at hu; rcases hu with rfl | rfl <;> rfl) (by simp [maxLen]; omega) (by omega) (by simp; omega) ?_
          intro v' w9 hown9 hgrow _
          obtain ⟨g', cap', rfl⟩ := ownsRow_succ hown9
          have hne : some (w.heap.size + 1 + 1) ≠ v.ownBlock := fun e => by have := own_ge hown _ e.symm; omega
          have hne1 : some (w.heap.size + 1) ≠ v.ownBlock := fun e => by have := own_ge hown _ e.symm; omega
          have hP9 := Blk.grown ((Blk.drew hP').alloc _) hgrow hne
          have hA9 := Blk.grown ((Blk.drew hA').alloc _) hgrow hne1
          have hB9 := Below.grown (hB'.drew.alloc (Nat.le_trans hgw (Nat.le_refl _)) (.cells #[.int .i64 (p : Int), .int .u64 dg] 141)) hgrow (by simp; omega) (fun k hk => by have := own_ge hown _ hk; omega)
          have hn9 := hgrow.size
          have hn9' : w.heap.size + 3 ≤ w9.heap.size := by simp at hn9; omega
          clear hgrow hn9 hP' hA' hown hcA hHeld
          refine hK.out _ _ (hcell _ hB9) (fun hHeld => ?_)
          clear hK K
          try simp only [Act.put, List.setIfInBounds_toArray, List.set_cons_zero, List.set_cons_succ]
          refine wpAnyH_take (i := 13) (v := ?_) rfl (by kernel_rfl) (by kernel_rfl) (by kernel_rfl) (fun _ _ _ h => h) (Or.inl ⟨by rfl, ?_⟩) (by assumption) ?_
          rotate_left
          · intro w' hSw
            (try dsimp only at hSw)
            go_simp
            try with_reducible rfl
          try simp only [Act.put, List.setIfInBounds_toArray, List.set_cons_zero, List.set_cons_succ]
          have c9 := (hP9.cell 0).trans (show _ = some v from rfl)
          have f9 := hP9.frozen 0
          refine wpAnyH_ready (rs := [14]) (by kernel_rfl) (by simp) ?_
          refine AllReadyH.cons rfl (fun K hK => ?_) AllReadyH.nil
          go_simp
          have hP10 : Blk (w9.setCell ⟨w.heap.size + 1 + 1, 0, none⟩ (.slice (some ⟨g', 0, none⟩) (pre.length + 1) cap')) (w.heap.size + 1 + 1) 70 #[(.slice (some ⟨g', 0, none⟩) (pre.length + 1) cap'), .bool false, .string (bs []), .string (bs [])] := hP9.set_ 0 (.slice (some ⟨g', 0, none⟩) (pre.length + 1) cap')
          have hA10 := hA9.far (p := ⟨w.heap.size + 1 + 1, 0, none⟩) (by simp) (.slice (some ⟨g', 0, none⟩) (pre.length + 1) cap')
          have hB10 := hB9.setCell (p := ⟨w.heap.size + 1 + 1, 0, none⟩) (by simp; omega) (.slice (some ⟨g', 0, none⟩) (pre.length + 1) cap')
          have hown10 := own_set hown9 (p := ⟨w.heap.size + 1 + 1, 0, none⟩) (by simp) (.slice (some ⟨g', 0, none⟩) (pre.length + 1) cap')
          have hn10 : w.heap.size + 3 ≤ (w9.setCell ⟨w.heap.size + 1 + 1, 0, none⟩ (.slice (some ⟨g', 0, none⟩) (pre.length + 1) cap')).heap.size := by simpa using hn9'
          refine hK.out _ _ (hcell _ hB10) (fun _ => ?_)
          clear hK K
          refine wpAnyH_done (by kernel_rfl) ?_ _
          generalize w9.setCell ⟨w.heap.size + 1 + 1, 0, none⟩ (.slice (some ⟨g', 0, none⟩) (pre.length + 1) cap') = wz at *
          go_wp2_with fail
          have hz := hblk.below hB10 hq
          refine (hsm _ ((hz.cell 2).trans rfl) ((hz.cell 3).trans rfl) ((hz.cell 4).trans rfl)).mono ?_
          rintro e w2 ⟨rfl, rfl⟩
          go_wp2_with fail
          go_roundw
          case rel => exact ⟨_, pre ++ [⟨(p : Int), dg⟩], (.slice (some ⟨g', 0, none⟩) (pre.length + 1) cap'), rfl, hP10, hA10, by simpa [turnCells, TurnD.cells] using hown10, hB10, hn10, hnext⟩
          case measure => simp [ptrNo]; omega
        · go_simp
          refine hK.out _ _ (hcell _ (hB'.drew.alloc (Nat.le_trans hgw (Nat.le_refl _)) (.cells #[.int .i64 (p : Int), .int .u64 dg] 141))) (fun _ => ?_)
          clear hK K
          try simp only [Act.put, List.setIfInBounds_toArray, List.set_cons_zero, List.set_cons_succ]
          refine wpAnyH_ready (rs := [1]) (by kernel_rfl) (by simp) ?_
          refine AllReadyH.cons rfl (fun K hK => ?_) AllReadyH.nil
          have c0a := ((hP'.alloc (.cells #[.int .i64 (p : Int), .int .u64 dg] 141)).cell 0).trans (show _ = some v from rfl)
          go_simp
          refine hK.out _ _ (hcell _ (hB'.drew.alloc (Nat.le_trans hgw (Nat.le_refl _)) (.cells #[.int .i64 (p : Int), .int .u64 dg] 141))) (fun _ => ?_)
          clear hK K
          try simp only [Act.put, List.setIfInBounds_toArray, List.set_cons_zero, List.set_cons_succ]
          refine wpAnyH_ready (rs := [12]) (by kernel_rfl) (by simp) ?_
          refine AllReadyH.cons rfl (fun K hK => ?_) AllReadyH.nil
          refine step_append_any _ (by rfl) (.tmp 39) (.tmp 49) 68 (by rfl) (w.heap.size + 3) 141 i0 _ 2 16 Try.underlying68 hi0 hz0 hz1 hz2 rfl (by omega) v pre.length _ (by rfl) (World.ownsRow.alloc (w := wr.drew) hown _) (wr.heap.size + 1) _ 1 1 [.int .i64 (p : Int), .int .u64 dg] (by rfl) (Rd.laid wr.drew #[.int .i64 (p : Int), .int .u64 dg] 141 2 1 rfl) (fun u hu => by simp at hu; rcases hu with rfl | rfl <;> rfl) (by simp [maxLen]; omega) (by omega) (by simp; omega) ?_
          intro v' w9 hown9 hgrow _
          obtain ⟨g', cap', rfl⟩ := ownsRow_succ hown9
          have hne : some (w.heap.size + 1 + 1) ≠ v.ownBlock := fun e => by have := own_ge hown _ e.symm; omega
          have hne1 : some (w.heap.size + 1) ≠ v.ownBlock := fun e => by have := own_ge hown _ e.symm; omega
          have hP9 := Blk.grown ((Blk.drew hP').alloc _) hgrow hne
          have hA9 := Blk.grown ((Blk.drew hA').alloc _) hgrow hne1
          have hB9 := Below.grown (hB'.drew.alloc (Nat.le_trans hgw (Nat.le_refl _)) (.cells #[.int .i64 (p : Int), .int .u64 dg] 141)) hgrow (by simp; omega) (fun k hk => by have := own_ge hown _ hk; omega)
          have hn9 := hgrow.size
          have hn9' : w.heap.size + 3 ≤ w9.heap.size := by simp at hn9; omega
          clear hgrow hn9 hP' hA' hown hcA hHeld
          refine hK.out _ _ (hcell _ hB9) (fun hHeld => ?_)
          clear hK K
          try simp only [Act.put, List.setIfInBounds_toArray, List.set_cons_zero, List.set_cons_succ]
          refine wpAnyH_take (i := 13) (v := ?_) rfl (by kernel_rfl) (by kernel_rfl) (by kernel_rfl) (fun _ _ _ h => h) (Or.inl ⟨by rfl, ?_⟩) (by assumption) ?_
          rotate_left
          · intro w' hSw
            (try dsimp only at hSw)
            go_simp
            try with_reducible rfl
          try simp only [Act.put, List.setIfInBounds_toArray, List.set_cons_zero, List.set_cons_succ]
          have c9 := (hP9.cell 0).trans (show _ = some v from rfl)
          have f9 := hP9.frozen 0
          refine wpAnyH_ready (rs := [14]) (by kernel_rfl) (by simp) ?_
          refine AllReadyH.cons rfl (fun K hK => ?_) AllReadyH.nil
          go_simp
          have hP10 : Blk (w9.setCell ⟨w.heap.size + 1 + 1, 0, none⟩ (.slice (some ⟨g', 0, none⟩) (pre.length + 1) cap')) (w.heap.size + 1 + 1) 70 #[(.slice (some ⟨g', 0, none⟩) (pre.length + 1) cap'), .bool false, .string (bs []), .string (bs [])] := hP9.set_ 0 (.slice (some ⟨g', 0, none⟩) (pre.length + 1) cap')
          have hA10 := hA9.far (p := ⟨w.heap.size + 1 + 1, 0, none⟩) (by simp) (.slice (some ⟨g', 0, none⟩) (pre.length + 1) cap')
          have hB10 := hB9.setCell (p := ⟨w.heap.size + 1 + 1, 0, none⟩) (by simp; omega) (.slice (some ⟨g', 0, none⟩) (pre.length + 1) cap')
          have hown10 := own_set hown9 (p := ⟨w.heap.size + 1 + 1, 0, none⟩) (by simp) (.slice (some ⟨g', 0, none⟩) (pre.length + 1) cap')
          have hn10 : w.heap.size + 3 ≤ (w9.setCell ⟨w.heap.size + 1 + 1, 0, none⟩ (.slice (some ⟨g', 0, none⟩) (pre.length + 1) cap')).heap.size := by simpa using hn9'
          refine hK.out _ _ (hcell _ hB10) (fun _ => ?_)
          clear hK K
          refine wpAnyH_done (by kernel_rfl) ?_ _
          generalize w9.setCell ⟨w.heap.size + 1 + 1, 0, none⟩ (.slice (some ⟨g', 0, none⟩) (pre.length + 1) cap') = wz at *
          go_wp2_with fail
          have hz := hblk.below hB10 hq
          refine (hsm _ ((hz.cell 2).trans rfl) ((hz.cell 3).trans rfl) ((hz.cell 4).trans rfl)).mono ?_
          rintro e w2 ⟨rfl, rfl⟩
          go_wp2_with fail
          go_roundw
          case rel => exact ⟨_, pre ++ [⟨(p : Int), dg⟩], (.slice (some ⟨g', 0, none⟩) (pre.length + 1) cap'), rfl, hP10, hA10, by simpa [turnCells, TurnD.cells] using hown10, hB10, hn10, hnext⟩
          case measure => simp [ptrNo]; omega
      | false =>
        simp only [Bool.false_eq_true, if_false, if_true] at hc hf hpre hside
        have hdg := digT_bd wd r
        have hcell : ∀ W, Below w.heap.size w W → W.cell? ⟨q', 2, none⟩ = some (.int .i64 (p : Int)) ∧ W.cell? ⟨b, 5, none⟩ = some (.int .u64 (digT wd r)) := fun W hb => ⟨((hblk.below hb hq).cell 2).trans rfl, (hr.below (hb.mono (by omega))).dig⟩
        have hnext : Hid (∃ t' : Tr, TrR wd w w.heap.size t' a ∧ lowT t' ∧ t'.find k = t.find k ∧ (pre ++ [⟨(p : Int), digT wd r⟩]) ++ turnsT wd k t' = turnsT wd k t) := ⟨l, hl.more (by omega), hll, hf, by rw [← hpre]; simp⟩
        have hsm := hside
        clear hf hpre hl hr hll hlr hside
        generalize digT wd r = dg at *
        go_wp2_with fail
        refine (hc _).mono ?_
        rintro e w1 ⟨rfl, rfl⟩
        go_wp2_with fail
        have hgw := hB'.size
        have c0 := (hP'.cell 0).trans (show _ = some v from rfl)
        have f0 := hP'.frozen 0
        have hcA := hcell _ (hB'.drew)
        refine wp_region_held_drew (S := fun W' => W'.cell? ⟨q', 2, none⟩ = some (.int .i64 (p : Int)) ∧ W'.cell? ⟨b, 5, none⟩ = some (.int .u64 dg)) (by kernel_rfl) hcA (fun hHeld => ?_)
        refine wpAnyH_take (i := 0) (v := ?_) rfl (by kernel_rfl) (by kernel_rfl) (by kernel_rfl) (fun _ _ _ h => h) (Or.inl ⟨by rfl, ?_⟩) (by assumption) ?_
        rotate_left
        · intro w' hSw
          (try dsimp only at hSw)
          go_simp
          try with_reducible rfl
        try simp only [Act.put, List.setIfInBounds_toArray, List.set_cons_zero, List.set_cons_succ]
        refine wpAnyH_take (i := 2) (v := ?_) rfl (by kernel_rfl) (by kernel_rfl) (by kernel_rfl) (fun _ _ _ h => h) (Or.inl ⟨by rfl, ?_⟩) (by assumption) ?_
        rotate_left
        · intro w' hSw
          (try dsimp only at hSw)
          go_simp
          try with_reducible rfl
        try simp only [Act.put, List.setIfInBounds_toArray, List.set_cons_zero, List.set_cons_succ]
        refine wpAnyH_take (i := 3) (v := ?_) rfl (by kernel_rfl) (by kernel_rfl) (by kernel_rfl) (fun _ _ _ h => h) (Or.inl ⟨by rfl, ?_⟩) (by assumption) ?_
        rotate_left
        · intro w' hSw
          (try dsimp only at hSw)
          go_simp
          try with_reducible rfl
        try simp only [Act.put, List.setIfInBounds_toArray, List.set_cons_zero, List.set_cons_succ]
        refine wpAnyH_take (i := 4) (v := ?_) rfl (by kernel_rfl) (by kernel_rfl) (by kernel_rfl) (fun _ _ _ h => h) (Or.inl ⟨by rfl, ?_⟩) (by assumption) ?_
        rotate_left
        · intro w' hSw
          (try dsimp only at hSw)
          go_simp
          try with_reducible rfl
        try simp only [Act.put, List.setIfInBounds_toArray, List.set_cons_zero, List.set_cons_succ]
        refine wpAnyH_take (i := 5) (v := ?_) rfl (by kernel_rfl) (by kernel_rfl) (by kernel_rfl) (fun _ _ _ h => h) (Or.inl ⟨by rfl, ?_⟩) (by assumption) ?_
        rotate_left
        · intro w' hSw
          (try dsimp only at hSw)
          go_simp
          try with_reducible rfl
        try simp only [Act.put, List.setIfInBounds_toArray, List.set_cons_zero, List.set_cons_succ]
        refine wpAnyH_take (i := 6) (v := ?_) rfl (by kernel_rfl) (by kernel_rfl) (by kernel_rfl) (fun _ _ _ h => h) (Or.inl ⟨by rfl, ?_⟩) (by assumption) ?_
        rotate_left
        · intro w' hSw
          (try dsimp only at hSw)
          go_simp
          try with_reducible rfl
        try simp only [Act.put, List.setIfInBounds_toArray, List.set_cons_zero, List.set_cons_succ]
        refine wpAnyH_take (i := 7) (v := ?_) rfl (by kernel_rfl) (by kernel_rfl) (by kernel_rfl) (fun _ _ _ h => h) (Or.inl ⟨by rfl, ?_⟩) (by assumption) ?_
        rotate_left
        · intro w' hSw
          (try dsimp only at hSw)
          go_simp
          try with_reducible rfl
        try simp only [Act.put, List.setIfInBounds_toArray, List.set_cons_zero, List.set_cons_succ]
        refine wpAnyH_take (i := 8) (v := ?_) rfl (by kernel_rfl) (by kernel_rfl) (by kernel_rfl) (fun _ _ _ h => h) (Or.inl ⟨by rfl, ?_⟩) (by assumption) ?_
        rotate_left
        · intro w' hSw
          (try dsimp only at hSw)
          go_simp
          try with_reducible rfl
        try simp only [Act.put, List.setIfInBounds_toArray, List.set_cons_zero, List.set_cons_succ]
        refine wpAnyH_take (i := 9) (v := ?_) rfl (by kernel_rfl) (by kernel_rfl) (by kernel_rfl) (fun _ _ _ h => h) (Or.inl ⟨by rfl, ?_⟩) (by assumption) ?_
        rotate_left
        · intro w' hSw
          (try dsimp only at hSw)
          go_simp
          try with_reducible rfl
        try simp only [Act.put, List.setIfInBounds_toArray, List.set_cons_zero, List.set_cons_succ]
        refine wpAnyH_take (i := 10) (v := ?_) rfl (by kernel_rfl) (by kernel_rfl) (by kernel_rfl) (fun _ _ _ h => h) (Or.inl ⟨by rfl, ?_⟩) (by assumption) ?_
        rotate_left
        · intro w' hSw
          (try dsimp only at hSw)
          go_simp
          try with_reducible rfl
        try simp only [Act.put, List.setIfInBounds_toArray, List.set_cons_zero, List.set_cons_succ]
        refine wpAnyH_ready (rs := [1, 11]) (by kernel_rfl) (by simp) ?_
        refine AllReadyH.cons rfl (fun K hK => ?_) (AllReadyH.cons rfl (fun K hK => ?_) AllReadyH.nil)
        · go_simp
          refine hK.out _ _ hcA (fun _ => ?_)
          clear hK K
          try simp only [Act.put, List.setIfInBounds_toArray, List.set_cons_zero, List.set_cons_succ]
          refine wpAnyH_ready (rs := [11]) (by kernel_rfl) (by simp) ?_
          refine AllReadyH.cons rfl (fun K hK => ?_) AllReadyH.nil
          go_simp
          refine hK.out _ _ (hcell _ (hB'.drew.alloc (Nat.le_trans hgw (Nat.le_refl _)) (.cells #[.int .i64 (p : Int), .int .u64 dg] 141))) (fun _ => ?_)
          clear hK K
          try simp only [Act.put, List.setIfInBounds_toArray, List.set_cons_zero, List.set_cons_succ]
          refine wpAnyH_ready (rs := [12]) (by kernel_rfl) (by simp) ?_
          refine AllReadyH.cons rfl (fun K hK => ?_) AllReadyH.nil
          refine step_append_any _ (by rfl) (.tmp 39) (.tmp 49) 68 (by rfl) (w.heap.size + 3) 141 i0 _ 2 16 Try.underlying68 hi0 hz0 hz1 hz2 rfl (by omega) v pre.length _ (by rfl) (World.ownsRow.alloc (w := wr.drew) hown _) (wr.heap.size + 1) _ 1 1 [.int .i64 (p : Int), .int .u64 dg] (by rfl) (Rd.laid wr.drew #[.int .i64 (p : Int), .int .u64 dg] 141 2 1 rfl) (fun u hu => by simp at hu; rcases hu with rfl | rfl <;> rfl) (by simp [maxLen]; omega) (by omega) (by simp; omega) ?_
          intro v' w9 hown9 hgrow _
          obtain ⟨g', cap', rfl⟩ := ownsRow_succ hown9
          have hne : some (w.heap.size + 1 + 1) ≠ v.ownBlock := fun e => by have := own_ge hown _ e.symm; omega
          have hne1 : some (w.heap.size + 1) ≠ v.ownBlock := fun e => by have := own_ge hown _ e.symm; omega
          have hP9 := Blk.grown ((Blk.drew hP').alloc _) hgrow hne
          have hA9 := Blk.grown ((Blk.drew hA').alloc _) hgrow hne1
          have hB9 := Below.grown (hB'.drew.alloc (Nat.le_trans hgw (Nat.le_refl _)) (.cells #[.int .i64 (p : Int), .int .u64 dg] 141)) hgrow (by simp; omega) (fun k hk => by have := own_ge hown _ hk; omega)
          have hn9 := hgrow.size
          have hn9' : w.heap.size + 3 ≤ w9.heap.size := by simp at hn9; omega
          clear hgrow hn9 hP' hA' hown hcA hHeld
          refine hK.out _ _ (hcell _ hB9) (fun hHeld => ?_)
          clear hK K
          try simp only [Act.put, List.setIfInBounds_toArray, List.set_cons_zero, List.set_cons_succ]
          refine wpAnyH_take (i := 13) (v := ?_) rfl (by kernel_rfl) (by kernel_rfl) (by kernel_rfl) (fun _ _ _ h => h) (Or.inl ⟨by rfl, ?_⟩) (by assumption) ?_
          rotate_left
          · intro w' hSw
            (try dsimp only at hSw)
            go_simp
            try with_reducible rfl
          try simp only [Act.put, List.setIfInBounds_toArray, List.set_cons_zero, List.set_cons_succ]
          have c9 := (hP9.cell 0).trans (show _ = some v from rfl)
          have f9 := hP9.frozen 0
          refine wpAnyH_ready (rs := [14]) (by kernel_rfl) (by simp) ?_
          refine AllReadyH.cons rfl (fun K hK => ?_) AllReadyH.nil
          go_simp
          have hP10 : Blk (w9.setCell ⟨w.heap.size + 1 + 1, 0, none⟩ (.slice (some ⟨g', 0, none⟩) (pre.length + 1) cap')) (w.heap.size + 1 + 1) 70 #[(.slice (some ⟨g', 0, none⟩) (pre.length + 1) cap'), .bool false, .string (bs []), .string (bs [])] := hP9.set_ 0 (.slice (some ⟨g', 0, none⟩) (pre.length + 1) cap')
          have hA10 := hA9.far (p := ⟨w.heap.size + 1 + 1, 0, none⟩) (by simp) (.slice (some ⟨g', 0, none⟩) (pre.length + 1) cap')
          have hB10 := hB9.setCell (p := ⟨w.heap.size + 1 + 1, 0, none⟩) (by simp; omega) (.slice (some ⟨g', 0, none⟩) (pre.length + 1) cap')
          have hown10 := own_set hown9 (p := ⟨w.heap.size + 1 + 1, 0, none⟩) (by simp) (.slice (some ⟨g', 0, none⟩) (pre.length + 1) cap')
          have hn10 : w.heap.size + 3 ≤ (w9.setCell ⟨w.heap.size + 1 + 1, 0, none⟩ (.slice (some ⟨g', 0, none⟩) (pre.length + 1) cap')).heap.size := by simpa using hn9'
          refine hK.out _ _ (hcell _ hB10) (fun _ => ?_)
          clear hK K
          refine wpAnyH_done (by kernel_rfl) ?_ _
          generalize w9.setCell ⟨w.heap.size + 1 + 1, 0, none⟩ (.slice (some ⟨g', 0, none⟩) (pre.length + 1) cap') = wz at *
          go_wp2_with fail
          have hz := hblk.below hB10 hq
          refine (hsm _ ((hz.cell 2).trans rfl) ((hz.cell 3).trans rfl) ((hz.cell 4).trans rfl)).mono ?_
          rintro e w2 ⟨rfl, rfl⟩
          go_wp2_with fail
          go_roundw
          case rel => exact ⟨_, pre ++ [⟨(p : Int), dg⟩], (.slice (some ⟨g', 0, none⟩) (pre.length + 1) cap'), rfl, hP10, hA10, by simpa [turnCells, TurnD.cells] using hown10, hB10, hn10, hnext⟩
          case measure => simp [ptrNo]; omega
        · go_simp
          refine hK.out _ _ (hcell _ (hB'.drew.alloc (Nat.le_trans hgw (Nat.le_refl _)) (.cells #[.int .i64 (p : Int), .int .u64 dg] 141))) (fun _ => ?_)
          clear hK K
          try simp only [Act.put, List.setIfInBounds_toArray, List.set_cons_zero, List.set_cons_succ]
          refine wpAnyH_ready (rs := [1]) (by kernel_rfl) (by simp) ?_
          refine AllReadyH.cons rfl (fun K hK => ?_) AllReadyH.nil
          have c0a := ((hP'.alloc (.cells #[.int .i64 (p : Int), .int .u64 dg] 141)).cell 0).trans (show _ = some v from rfl)
          go_simp
          refine hK.out _ _ (hcell _ (hB'.drew.alloc (Nat.le_trans hgw (Nat.le_refl _)) (.cells #[.int .i64 (p : Int), .int .u64 dg] 141))) (fun _ => ?_)
          clear hK K
          try simp only [Act.put, List.setIfInBounds_toArray, List.set_cons_zero, List.set_cons_succ]
          refine wpAnyH_ready (rs := [12]) (by kernel_rfl) (by simp) ?_
          refine AllReadyH.cons rfl (fun K hK => ?_) AllReadyH.nil
          refine step_append_any _ (by rfl) (.tmp 39) (.tmp 49) 68 (by rfl) (w.heap.size + 3) 141 i0 _ 2 16 Try.underlying68 hi0 hz0 hz1 hz2 rfl (by omega) v pre.length _ (by rfl) (World.ownsRow.alloc (w := wr.drew) hown _) (wr.heap.size + 1) _ 1 1 [.int .i64 (p : Int), .int .u64 dg] (by rfl) (Rd.laid wr.drew #[.int .i64 (p : Int), .int .u64 dg] 141 2 1 rfl) (fun u hu => by simp at hu; rcases hu with rfl | rfl <;> rfl) (by simp [maxLen]; omega) (by omega) (by simp; omega) ?_
          intro v' w9 hown9 hgrow _
          obtain ⟨g', cap', rfl⟩ := ownsRow_succ hown9
          have hne : some (w.heap.size + 1 + 1) ≠ v.ownBlock := fun e => by have := own_ge hown _ e.symm; omega
          have hne1 : some (w.heap.size + 1) ≠ v.ownBlock := fun e => by have := own_ge hown _ e.symm; omega
          have hP9 := Blk.grown ((Blk.drew hP').alloc _) hgrow hne
          have hA9 := Blk.grown ((Blk.drew hA').alloc _) hgrow hne1
          have hB9 := Below.grown (hB'.drew.alloc (Nat.le_trans hgw (Nat.le_refl _)) (.cells #[.int .i64 (p : Int), .int .u64 dg] 141)) hgrow (by simp; omega) (fun k hk => by have := own_ge hown _ hk; omega)
          have hn9 := hgrow.size
          have hn9' : w.heap.size + 3 ≤ w9.heap.size := by simp at hn9; omega
          clear hgrow hn9 hP' hA' hown hcA hHeld
          refine hK.out _ _ (hcell _ hB9) (fun hHeld => ?_)
          clear hK K
          try simp only [Act.put, List.setIfInBounds_toArray, List.set_cons_zero, List.set_cons_succ]
          refine wpAnyH_take (i := 13) (v := ?_) rfl (by kernel_rfl) (by kernel_rfl) (by kernel_rfl) (fun _ _ _ h => h) (Or.inl ⟨by rfl, ?_⟩) (by assumption) ?_
          rotate_left
          · intro w' hSw
            (try dsimp only at hSw)
            go_simp
            try with_reducible rfl
          try simp only [Act.put, List.setIfInBounds_toArray, List.set_cons_zero, List.set_cons_succ]
          have c9 := (hP9.cell 0).trans (show _ = some v from rfl)
          have f9 := hP9.frozen 0
          refine wpAnyH_ready (rs := [14]) (by kernel_rfl) (by simp) ?_
          refine AllReadyH.cons rfl (fun K hK => ?_) AllReadyH.nil
          go_simp
          have hP10 : Blk (w9.setCell ⟨w.heap.size + 1 + 1, 0, none⟩ (.slice (some ⟨g', 0, none⟩) (pre.length + 1) cap')) (w.heap.size + 1 + 1) 70 #[(.slice (some ⟨g', 0, none⟩) (pre.length + 1) cap'), .bool false, .string (bs []), .string (bs [])] := hP9.set_ 0 (.slice (some ⟨g', 0, none⟩) (pre.length + 1) cap')
          have hA10 := hA9.far (p := ⟨w.heap.size + 1 + 1, 0, none⟩) (by simp) (.slice (some ⟨g', 0, none⟩) (pre.length + 1) cap')
          have hB10 := hB9.setCell (p := ⟨w.heap.size + 1 + 1, 0, none⟩) (by simp; omega) (.slice (some ⟨g', 0, none⟩) (pre.length + 1) cap')
          have hown10 := own_set hown9 (p := ⟨w.heap.size + 1 + 1, 0, none⟩) (by simp) (.slice (some ⟨g', 0, none⟩) (pre.length + 1) cap')
          have hn10 : w.heap.size + 3 ≤ (w9.setCell ⟨w.heap.size + 1 + 1, 0, none⟩ (.slice (some ⟨g', 0, none⟩) (pre.length + 1) cap')).heap.size := by simpa using hn9'
          refine hK.out _ _ (hcell _ hB10) (fun _ => ?_)
          clear hK K
          refine wpAnyH_done (by kernel_rfl) ?_ _
          generalize w9.setCell ⟨w.heap.size + 1 + 1, 0, none⟩ (.slice (some ⟨g', 0, none⟩) (pre.length + 1) cap') = wz at *
          go_wp2_with fail
          have hz := hblk.below hB10 hq
          refine (hsm _ ((hz.cell 2).trans rfl) ((hz.cell 3).trans rfl) ((hz.cell 4).trans rfl)).mono ?_
          rintro e w2 ⟨rfl, rfl⟩
          go_wp2_with fail
          go_roundw
          case rel => exact ⟨_, pre ++ [⟨(p : Int), dg⟩], (.slice (some ⟨g', 0, none⟩) (pre.length + 1) cap'), rfl, hP10, hA10, by simpa [turnCells, TurnD.cells] using hown10, hB10, hn10, hnext⟩
          case measure => simp [ptrNo]; omega
end Go.Proofs.Ytjjkdmngmopjbaa
