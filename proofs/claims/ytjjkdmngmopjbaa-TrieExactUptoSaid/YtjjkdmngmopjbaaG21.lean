/- Of the texts Tri15. -/
import Derived.Test.YtjjkdmngmopjbaaProg
import Derived.Test.YtjjkdmngmopjbaaG13
import Derived.Test.YtjjkdmngmopjbaaG16
import Derived.Test.YtjjkdmngmopjbaaG06
namespace Go.Proofs.Ytjjkdmngmopjbaa
open Go.RowKit Go.Shelf
def itemCells (l : List Ent) : List Value := l.flatMap fun x => [.string (bs x.1), .string (bs x.2)]
theorem itemCells_append (l m : List Ent) : itemCells (l ++ m) = itemCells l ++ itemCells m := List.flatMap_append ..
theorem itemCells_len (l : List Ent) : (itemCells l).length = l.length * 2 := by
  unfold itemCells
  induction l with
  | nil => rfl
  | cons x l ih => simp [ih]; omega
theorem ownFrom_keepT {β : Type} (B : Nat) (w0 : World) : OwnFrom B (fun (_ : β) W => KeepT w0 W) := fun _ W W' row hk hg hr b t cs h1 h2 h3 => by
  refine (hk b t cs h1 h2 h3).grown hg (fun e => ?_)
  obtain ⟨_, o, ho, hc⟩ := hr b e.symm
  have := hk b t cs h1 h2 h3
  unfold Blk at this
  rw [this] at ho
  cases ho
  cases hc
theorem ownFrom_blk {β : Type} (B b : Nat) (t : TypeId) (cs : Array Value) : OwnFrom B (fun (_ : β) W => Blk W b t cs) := fun _ W W' row hk hg hr => by
  refine hk.grown hg (fun e => ?_)
  obtain ⟨_, o, ho, hc⟩ := hr b e.symm
  unfold Blk at hk
  rw [hk] at ho
  cases ho
  cases hc
theorem ownFrom_fact {β : Type} (B : Nat) (p : β → Prop) : OwnFrom B (fun s (_ : World) => p s) := fun _ _ _ _ h _ _ => h
theorem KeepT.appended {W w1 : World} {n₀ B size k : Nat} {v v' : Value} {xs : List Value} {tmp : Obj} (hv : Boxed W B 55 v) (hrow : W.ownsRow n₀ 132 size v k xs) (hgrow : (W.alloc tmp).grownBy w1 v.ownBlock) : KeepT W (w1.setCell ⟨B, 0, none⟩ v') := fun b t cs h1 h2 h3 => by
  have h4 := h3.alloc tmp
  have h5 : Blk w1 b t cs := h4.grown hgrow (fun e => by
    rcases (hrow.alloc tmp).2 with ⟨rfl, _⟩ | ⟨g, cap, cur, rfl, _, hgb, _⟩
    · simp [Value.ownBlock] at e
    · obtain rfl : b = g := by simpa [Value.ownBlock] using e
      unfold Blk at h4
      rw [hgb] at h4
      injection h4 with h4
      injection h4 with _ ht
      exact h2 ht.symm)
  refine h5.far (fun e => ?_) _
  have e' : b = B := e
  subst e'
  unfold Blk at h3
  unfold Boxed at hv
  rw [hv] at h3
  injection h3 with h3
  injection h3 with _ ht
  exact h1 ht.symm
/-- how many -/
def someL (k : Key) (most : Int) (l : List Ent) : List Ent := if most < 0 then preL k l else (preL k l).take most.toNat
theorem itemInfo : (Try.prog.info? 132).map (fun i => (i.zero, i.size, i.bytes)) = some (some (.agg #[.string ⟨#[]⟩, .string ⟨#[]⟩]), 2, 32) := by kernel_rfl
set_option maxRecDepth 100000 in
set_option maxHeartbeats 4000000 in
theorem items_any (wd : Int) (k : Key) (most : Int) (t : Option Tr) (top : Option Addr) (w : World) (hk : k.length ≤ 1000000000) (hlow : ∀ u, t = some u → lowT u) (hok : Tr.ook t) (hlen : (Tr.oitems t).length ≤ 1000000000) (h : OTrR wd w w.heap.size t top) :
    Calls Try.prog 21 #[treeV wd top, .string (bs k), .int .i64 most] w fun e w' => ∃ v, e = .returned v ∧ w'.ownsRow w.heap.size 132 2 v (someL k most (Tr.oitems t)).length (itemCells (someL k most (Tr.oitems t))) ∧ Below w.heap.size w w' := by
  have hw1 : ∀ f, Fence.wide.fn f := fun _ => trivial
  have hw2 : Fence.wide.depth.isSome = false := rfl
  have hmx : Try.prog.follows .mixedOrders = true := by kernel_rfl
  obtain ⟨RL, hR⟩ : ∃ RL, RL = if most < 0 then preL k (Tr.oitems t) else (preL k (Tr.oitems t)).take most.toNat := ⟨_, rfl⟩
  rw [show someL k most (Tr.oitems t) = RL from by rw [hR]; rfl]
  refine (callsIn_wide (n := 9)).1 ?_
  refine callsIn_of_wp_marks Try.func21 rfl trivial ?_ rfl
  simp only [Try.ntmps21, List.size_toArray, List.length_cons, List.length_nil, Nat.reduceAdd, Nat.reduceSub, Array.replicate_succ, Array.replicate_zero, List.push_toArray, List.append_toArray, List.nil_append, List.cons_append]
  unfold treeV
  have hfr := fun W => from_any wd k top W
  unfold treeV at hfr
  gi_wp2_with (gi_at_call 64; refine (callsIn_wide.2 (hfr _)).mono ?_; rintro e w' ⟨rfl, rfl⟩)
  have hM : Blk (((((w.alloc (.cells #[.int .i64 wd, .pointer top] 53)).alloc (.cells #[.int .i64 most] 3)).alloc (.cells #[.slice none 0 0] 55)).alloc (.cells #[.int .i64 wd, .pointer top] 53)).alloc (.cells #[.string (bs k)] 9)) (w.heap.size + 1) 3 #[.int .i64 most] := by
    have := ((((Blk.new (w.alloc (.cells #[.int .i64 wd, .pointer top] 53)) 3 #[.int .i64 most]).alloc (.cells #[.slice none 0 0] 55)).alloc (.cells #[.int .i64 wd, .pointer top] 53)).alloc (.cells #[.string (bs k)] 9))
    simpa using this
  have hO' : Blk (((((w.alloc (.cells #[.int .i64 wd, .pointer top] 53)).alloc (.cells #[.int .i64 most] 3)).alloc (.cells #[.slice none 0 0] 55)).alloc (.cells #[.int .i64 wd, .pointer top] 53)).alloc (.cells #[.string (bs k)] 9)) (w.heap.size + 1 + 1) 55 #[.slice none 0 0] := by
    have h0 := (((Blk.new ((w.alloc (.cells #[.int .i64 wd, .pointer top] 53)).alloc (.cells #[.int .i64 most] 3)) 55 #[.slice none 0 0]).alloc (.cells #[.int .i64 wd, .pointer top] 53)).alloc (.cells #[.string (bs k)] 9))
    simpa using h0
  have hO : Boxed _ (w.heap.size + 1 + 1) 55 (.slice none 0 0) := hO'
  clear hO'
  have hT : Blk (((((w.alloc (.cells #[.int .i64 wd, .pointer top] 53)).alloc (.cells #[.int .i64 most] 3)).alloc (.cells #[.slice none 0 0] 55)).alloc (.cells #[.int .i64 wd, .pointer top] 53)).alloc (.cells #[.string (bs k)] 9)) (w.heap.size + 1 + 1 + 1) 53 #[.int .i64 wd, .pointer top] := by
    have := ((Blk.new (((w.alloc (.cells #[.int .i64 wd, .pointer top] 53)).alloc (.cells #[.int .i64 most] 3)).alloc (.cells #[.slice none 0 0] 55)) 53 #[.int .i64 wd, .pointer top]).alloc (.cells #[.string (bs k)] 9))
    simpa using this
  have hP : Blk (((((w.alloc (.cells #[.int .i64 wd, .pointer top] 53)).alloc (.cells #[.int .i64 most] 3)).alloc (.cells #[.slice none 0 0] 55)).alloc (.cells #[.int .i64 wd, .pointer top] 53)).alloc (.cells #[.string (bs k)] 9)) (w.heap.size + 1 + 1 + 1 + 1) 9 #[.string (bs k)] := by
    have := Blk.new ((((w.alloc (.cells #[.int .i64 wd, .pointer top] 53)).alloc (.cells #[.int .i64 most] 3)).alloc (.cells #[.slice none 0 0] 55)).alloc (.cells #[.int .i64 wd, .pointer top] 53)) 9 #[.string (bs k)]
    simpa using this
  have hB : Below w.heap.size w (((((w.alloc (.cells #[.int .i64 wd, .pointer top] 53)).alloc (.cells #[.int .i64 most] 3)).alloc (.cells #[.slice none 0 0] 55)).alloc (.cells #[.int .i64 wd, .pointer top] 53)).alloc (.cells #[.string (bs k)] 9)) := (((((Below.refl _ _).alloc (Nat.le_refl _) _).alloc (by simp) _).alloc (by simp; omega) _).alloc (by simp; omega) _).alloc (by simp; omega) _
  have hz : (((((w.alloc (.cells #[.int .i64 wd, .pointer top] 53)).alloc (.cells #[.int .i64 most] 3)).alloc (.cells #[.slice none 0 0] 55)).alloc (.cells #[.int .i64 wd, .pointer top] 53)).alloc (.cells #[.string (bs k)] 9)).heap.size = w.heap.size + 5 := by simp
  have ht := h.up hB
  generalize (((((w.alloc (.cells #[.int .i64 wd, .pointer top] 53)).alloc (.cells #[.int .i64 most] 3)).alloc (.cells #[.slice none 0 0] 55)).alloc (.cells #[.int .i64 wd, .pointer top] 53)).alloc (.cells #[.string (bs k)] 9)) = w1 at *
  have hst := from_stops wd k t top (9 - 1) (w.heap.size + 1 + 1 + 1) (w.heap.size + 1 + 1 + 1 + 1) w1.heap.size w1 hk hlow hok hT hP ht
  have hL : (preL k (Tr.oitems t)).length ≤ 1000000000 := Nat.le_trans (List.length_filter_le _ _) hlen
  have HR := Lib.hid hR
  clear hR
  generalize hl : preL k (Tr.oitems t) = L at *
  clear hl hlow hok hlen h ht hT hP hfr
  refine wpIn_rangeFunc_ownF rfl (by omega) (gf := 108) (lb := #[.pointer (some ⟨w.heap.size + 1 + 1 + 1, 0, none⟩), .pointer (some ⟨w.heap.size + 1 + 1 + 1 + 1, 0, none⟩)]) rfl trivial (enters_of Try.func108 (by kernel_rfl) rfl)
    hst (fun h k => KeepT.trans h k) (fun W l o o' _ h hc _ => KeepT.putObj h hc) (Below.refl _ _) (fun _ => rfl)
    (fun pre W => (∃ v, Boxed W (w.heap.size + 1 + 1) 55 v ∧ W.ownsRow w.heap.size 132 2 v pre.length (itemCells (entsOf pre)) ∧ True) ∧ Below w.heap.size w W ∧ KeepT w1 W ∧ Blk W (w.heap.size + 1) 3 #[.int .i64 most] ∧ (most < 0 ∨ (pre.length : Int) ≤ most))
    (fun c pre W => c = .exit 0 ∧ (∃ v, Boxed W (w.heap.size + 1 + 1) 55 v ∧ W.ownsRow w.heap.size 132 2 v ((entsOf pre).take most.toNat).length (itemCells ((entsOf pre).take most.toNat)) ∧ True) ∧ Below w.heap.size w W ∧ (0 ≤ most ∧ most ≤ (pre.length : Int)))
    (OwnFrom.and (Own.from (holdsRow_own _ _ _ _ _ (fun (pre : List (LfT wd w1 w1.heap.size)) => pre.length) (fun pre => itemCells (entsOf pre)) (fun _ _ => True)) _) (OwnFrom.and (ownFrom_below (Nat.le_refl _) (by omega)) (OwnFrom.and (ownFrom_keepT _ _) (OwnFrom.and (ownFrom_blk _ _ _ _) (ownFrom_fact _ _)))))
    (fun c => OwnFrom.and (ownFrom_fact _ (fun _ => c = .exit 0)) (OwnFrom.and (Own.from (holdsRow_own _ _ _ _ _ (fun (pre : List (LfT wd w1 w1.heap.size)) => ((entsOf pre).take most.toNat).length) (fun pre => itemCells ((entsOf pre).take most.toNat)) (fun _ _ => True)) _) (OwnFrom.and (ownFrom_below (Nat.le_refl _) (by omega)) (ownFrom_fact _ _))))
    ⟨⟨_, hO, World.ownsRow_nil _ _ _ _, trivial⟩, hB, KeepT.refl _, hM, by simp; omega⟩
    (fun x => { tmps := #[.agg #[.int .i64 wd, .pointer top], .string (bs k), .int .i64 most, .pointer (some ⟨w.heap.size, 0, none⟩), undef, .pointer (some ⟨w.heap.size + 1, 0, none⟩), .slice none 0 0, .pointer (some ⟨w.heap.size + 1 + 1, 0, none⟩), .pointer (some ⟨x.1.1, 0, none⟩), .agg #[.int .i64 wd, .pointer top], .string (bs k), .func (.func 108) #[] #[.pointer (some ⟨w.heap.size + 1 + 1 + 1, 0, none⟩), .pointer (some ⟨w.heap.size + 1 + 1 + 1 + 1, 0, none⟩)], .pointer (some ⟨x.1.1, 0, none⟩), undef, undef, undef, undef, undef, undef, undef, undef, undef, undef, undef, undef, undef, undef, undef, undef, undef, undef, undef, undef, undef], defers := [] }) ?assign ?body ?done ?stop
  case assign =>
    intro l x W K hK
    have hsm := Oper.semAt_some l
    unfold encL
    gi_wp2
    exact hK
  case body =>
    rintro l pre x W ⟨⟨v, hv, hrow, _⟩, hB, hK, hM, hlim⟩ hlt
    have hsm := Oper.semAt_some l
    have hx := hK _ _ _ (by decide) (by decide) x.2.2
    have cm := (hM.cell 0).trans (show _ = some (Value.int .i64 most) from rfl)
    have cv := hv.cell
    obtain ⟨vA, vc, rfl⟩ := own_shape hrow
    by_cases he : 0 ≤ most ∧ most ≤ (pre.length : Int)
    · have hm0 : decide ((0 : Int) ≤ most) = true := decide_eq_true he.1
      have he0 : decide (most ≤ (pre.length : Int)) = true := decide_eq_true he.2
      gi_wp2
      have hn : pre.length = most.toNat := by omega
      have e1 : (entsOf (pre ++ [x])).take most.toNat = entsOf pre := by
        rw [← hn]
        simp [entsOf]
      refine ⟨KeepsOthers.refl _, rfl, ⟨_, hv, ?_, trivial⟩, hB, he.1, by simp; omega⟩
      rw [e1]
      simpa [entsOf] using hrow
    have hcase : decide ((0 : Int) ≤ most) = false ∨ (decide ((0 : Int) ≤ most) = true ∧ decide (most ≤ (pre.length : Int)) = false) := by
      by_cases hm : 0 ≤ most
      · exact .inr ⟨decide_eq_true hm, decide_eq_false (by omega)⟩
      · exact .inl (decide_eq_false hm)
    have hlim2 : most < 0 ∨ ((pre.length + 1 : Nat) : Int) ≤ most := by omega
    have hx0 := (hx.cell 0).trans (show _ = some (Value.string (bs x.1.2.1)) from rfl)
    have hx1 := (hx.cell 1).trans (show _ = some (Value.string (bs x.1.2.2)) from rfl)
    have fv := hv.frozen
    have cvb := fun o => (Boxed.alloc hv o).cell
    have cva := fun o => (Boxed.alloc (W := W.drew) hv o).cell
    have hxa0 := fun o => hx.drew.cell_a 0 (Value.string (bs x.1.2.1)) rfl o
    have hxa1 := fun o => hx.drew.cell_a 1 (Value.string (bs x.1.2.2)) rfl o
    obtain ⟨i0, hi0, hz0, hz1, hz2⟩ := info_parts itemInfo
    have hpl : pre.length ≤ 1000000000 := by omega
    have hgW := hB.size
    generalize hkey : x.1.2.1 = key at *
    generalize hval : x.1.2.2 = val at *
    generalize hq : x.1.1 = q at *
    rcases hcase with d1 | ⟨d1, d2⟩
    all_goals
      gi_wp2
      refine wpIn_region_held (S := fun W' => W'.cell? ⟨q, 0, none⟩ = some (.string (bs key)) ∧ W'.cell? ⟨q, 1, none⟩ = some (.string (bs val))) hmx (by kernel_rfl) (fun ⟨_, _, h⟩ => h) ⟨hx0, hx1⟩ (fun hHeld => ?_)
      refine wpAnyH_take (i := 1) (v := ?_) rfl (by kernel_rfl) (by kernel_rfl) (by kernel_rfl) (fun _ _ _ h => h) (Or.inl ⟨by rfl, ?_⟩) (by assumption) ?_
      rotate_left
      · intro w' hSw
        (try dsimp only at hSw)
        go_simp
        try with_reducible rfl
      try simp only [Act.put, List.setIfInBounds_toArray, List.set_cons_zero, List.set_cons_succ]
      refine wpAnyH_take (i := 2) (v := ?_) rfl (by kernel_rfl) (by kernel_rfl) (by kernel_rfl) (fun _ _ _ h => h) (Or.inl ⟨by rfl, ?_⟩) (by assumption) ?_
      rotate_left
      · intro w' hSw
        (try dsimp only at hSw)
        go_simp
        try with_reducible rfl
      try simp only [Act.put, List.setIfInBounds_toArray, List.set_cons_zero, List.set_cons_succ]
      refine wpAnyH_take (i := 3) (v := ?_) rfl (by kernel_rfl) (by kernel_rfl) (by kernel_rfl) (fun _ _ _ h => h) (Or.inl ⟨by rfl, ?_⟩) (by assumption) ?_
      rotate_left
      · intro w' hSw
        (try dsimp only at hSw)
        go_simp
        try with_reducible rfl
      try simp only [Act.put, List.setIfInBounds_toArray, List.set_cons_zero, List.set_cons_succ]
      refine wpAnyH_take (i := 4) (v := ?_) rfl (by kernel_rfl) (by kernel_rfl) (by kernel_rfl) (fun _ _ _ h => h) (Or.inl ⟨by rfl, ?_⟩) (by assumption) ?_
      rotate_left
      · intro w' hSw
        (try dsimp only at hSw)
        go_simp
        try with_reducible rfl
      try simp only [Act.put, List.setIfInBounds_toArray, List.set_cons_zero, List.set_cons_succ]
      refine wpAnyH_take (i := 5) (v := ?_) rfl (by kernel_rfl) (by kernel_rfl) (by kernel_rfl) (fun _ _ _ h => h) (Or.inl ⟨by rfl, ?_⟩) (by assumption) ?_
      rotate_left
      · intro w' hSw
        (try dsimp only at hSw)
        go_simp
        try with_reducible rfl
      try simp only [Act.put, List.setIfInBounds_toArray, List.set_cons_zero, List.set_cons_succ]
      refine wpAnyH_take (i := 6) (v := ?_) rfl (by kernel_rfl) (by kernel_rfl) (by kernel_rfl) (fun _ _ _ h => h) (Or.inl ⟨by rfl, ?_⟩) (by assumption) ?_
      rotate_left
      · intro w' hSw
        (try dsimp only at hSw)
        go_simp
        try with_reducible rfl
      try simp only [Act.put, List.setIfInBounds_toArray, List.set_cons_zero, List.set_cons_succ]
      refine wpAnyH_take (i := 7) (v := ?_) rfl (by kernel_rfl) (by kernel_rfl) (by kernel_rfl) (fun _ _ _ h => h) (Or.inl ⟨by rfl, ?_⟩) (by assumption) ?_
      rotate_left
      · intro w' hSw
        (try dsimp only at hSw)
        go_simp
        try with_reducible rfl
      try simp only [Act.put, List.setIfInBounds_toArray, List.set_cons_zero, List.set_cons_succ]
      refine wpAnyH_take (i := 8) (v := ?_) rfl (by kernel_rfl) (by kernel_rfl) (by kernel_rfl) (fun _ _ _ h => h) (Or.inl ⟨by rfl, ?_⟩) (by assumption) ?_
      rotate_left
      · intro w' hSw
        (try dsimp only at hSw)
        go_simp
        try with_reducible rfl
      try simp only [Act.put, List.setIfInBounds_toArray, List.set_cons_zero, List.set_cons_succ]
      refine wpAnyH_take (i := 9) (v := ?_) rfl (by kernel_rfl) (by kernel_rfl) (by kernel_rfl) (fun _ _ _ h => h) (Or.inl ⟨by rfl, ?_⟩) (by assumption) ?_
      rotate_left
      · intro w' hSw
        (try dsimp only at hSw)
        go_simp
        try with_reducible rfl
      try simp only [Act.put, List.setIfInBounds_toArray, List.set_cons_zero, List.set_cons_succ]
      refine wpAnyH_ready (rs := [0, 10]) (by kernel_rfl) (by simp) ?_
      refine AllReadyH.cons rfl (fun K hK' => ?_) (AllReadyH.cons rfl (fun K hK' => ?_) AllReadyH.nil)
      · go_simp
        refine hK'.out _ _ ⟨hx0, hx1⟩ (fun _ => ?_)
        clear hK' K
        try simp only [Act.put, List.setIfInBounds_toArray, List.set_cons_zero, List.set_cons_succ]
        refine wpAnyH_ready (rs := [10]) (by kernel_rfl) (by simp) ?_
        refine AllReadyH.cons rfl (fun K hK' => ?_) AllReadyH.nil
        go_simp
        refine hK'.out _ _ ⟨hxa0 _, hxa1 _⟩ (fun _ => ?_)
        clear hK' K
        try simp only [Act.put, List.setIfInBounds_toArray, List.set_cons_zero, List.set_cons_succ]
        refine wpAnyH_ready (rs := [11]) (by kernel_rfl) (by simp) ?_
        refine AllReadyH.cons rfl (fun K hK' => ?_) AllReadyH.nil
        refine step_append_any _ (by rfl) (.tmp 21) (.tmp 31) 55 (by rfl) w.heap.size 132 i0 _ 2 32 Try.underlying55 hi0 hz0 hz1 hz2 rfl (by omega) (.slice vA pre.length vc) pre.length _ (by rfl) (hrow.alloc _) (W.heap.size + 1) _ 1 1 [.string (bs key), .string (bs val)] (by rfl) (Rd.laid W.drew #[.string (bs key), .string (bs val)] 132 2 1 rfl) (fun u hu => by simp at hu; rcases hu with rfl | rfl <;> rfl) (by simp [maxLen]; omega) (by omega) (by simp; omega) ?_
        intro v' w9 hown' hgrow _
        obtain ⟨hv1, hv2, hr2, hk2, hb2⟩ := Boxed.appended (W := W.drew) hv (by decide) hrow hgW (by omega) hown' hgrow
        have hkt := KeepT.appended (W := W.drew) (v' := v') hv hrow hgrow
        obtain ⟨g', cap', rfl⟩ := ownsRow_succ hown'
        have hkW : KeepT W (w9.setCell ⟨w.heap.size + 1 + 1, 0, none⟩ (.slice (some ⟨g', 0, none⟩) (pre.length + 1) cap')) := fun b t cs h1 h2 h3 => hkt b t cs h1 h2 h3.drew
        have hb2' : Below w.heap.size W (w9.setCell ⟨w.heap.size + 1 + 1, 0, none⟩ (.slice (some ⟨g', 0, none⟩) (pre.length + 1) cap')) := (Below.refl _ _).drew.trans hb2
        have hM8 := hkW _ _ _ (by decide) (by decide) hM
        have hX8 := hkW _ _ _ (by decide) (by decide) hx
        have hx80 := (hX8.cell 0).trans (show _ = some (Value.string (bs key)) from rfl)
        have hx81 := (hX8.cell 1).trans (show _ = some (Value.string (bs val)) from rfl)
        have hqne : q ≠ w.heap.size + 1 + 1 := Blk.ne_ hx hv (by decide)
        have hx90 : w9.cell? ⟨q, 0, none⟩ = some (.string (bs key)) := by rw [← hx80]; exact (World.cell?_setCell_other _ _ _ _ (fun e => hqne (congrArg Addr.block e).symm)).symm
        have hx91 : w9.cell? ⟨q, 1, none⟩ = some (.string (bs val)) := by rw [← hx81]; exact (World.cell?_setCell_other _ _ _ _ (fun e => hqne (congrArg Addr.block e).symm)).symm
        have hc1 := hv1.cell
        have hf1 := hv1.frozen
        have hfin0 : w9.cell? ⟨q, 0, none⟩ = some (.string (bs key)) ∧ w9.cell? ⟨q, 1, none⟩ = some (.string (bs val)) := ⟨hx90, hx91⟩
        refine hK'.out _ _ hfin0 (fun _ => ?_)
        clear hK' K
        try simp only [Act.put, List.setIfInBounds_toArray, List.set_cons_zero, List.set_cons_succ]
        refine wpAnyH_ready (rs := [12]) (by kernel_rfl) (by simp) ?_
        refine AllReadyH.cons rfl (fun K hK' => ?_) AllReadyH.nil
        go_simp
        refine hK'.out _ _ ⟨hx80, hx81⟩ (fun _ => ?_)
        clear hK' K
        refine wpAnyH_done (by kernel_rfl) ?_ _
        exact ⟨(KeepsOthers.drew W).trans hk2, hkW, ⟨_, hv2, by simpa [entsOf, itemCells_append, itemCells, hkey, hval] using hr2, trivial⟩, hB.trans hb2', hK.trans hkW, hM8, by simp; omega⟩
      · go_simp
        refine hK'.out _ _ ⟨hxa0 _, hxa1 _⟩ (fun _ => ?_)
        clear hK' K
        try simp only [Act.put, List.setIfInBounds_toArray, List.set_cons_zero, List.set_cons_succ]
        refine wpAnyH_ready (rs := [0]) (by kernel_rfl) (by simp) ?_
        refine AllReadyH.cons rfl (fun K hK' => ?_) AllReadyH.nil
        go_simp
        refine hK'.out _ _ ⟨hxa0 _, hxa1 _⟩ (fun _ => ?_)
        clear hK' K
        try simp only [Act.put, List.setIfInBounds_toArray, List.set_cons_zero, List.set_cons_succ]
        refine wpAnyH_ready (rs := [11]) (by kernel_rfl) (by simp) ?_
        refine AllReadyH.cons rfl (fun K hK' => ?_) AllReadyH.nil
        refine step_append_any _ (by rfl) (.tmp 21) (.tmp 31) 55 (by rfl) w.heap.size 132 i0 _ 2 32 Try.underlying55 hi0 hz0 hz1 hz2 rfl (by omega) (.slice vA pre.length vc) pre.length _ (by rfl) (hrow.alloc _) (W.heap.size + 1) _ 1 1 [.string (bs key), .string (bs val)] (by rfl) (Rd.laid W.drew #[.string (bs key), .string (bs val)] 132 2 1 rfl) (fun u hu => by simp at hu; rcases hu with rfl | rfl <;> rfl) (by simp [maxLen]; omega) (by omega) (by simp; omega) ?_
        intro v' w9 hown' hgrow _
        obtain ⟨hv1, hv2, hr2, hk2, hb2⟩ := Boxed.appended (W := W.drew) hv (by decide) hrow hgW (by omega) hown' hgrow
        have hkt := KeepT.appended (W := W.drew) (v' := v') hv hrow hgrow
        obtain ⟨g', cap', rfl⟩ := ownsRow_succ hown'
        have hkW : KeepT W (w9.setCell ⟨w.heap.size + 1 + 1, 0, none⟩ (.slice (some ⟨g', 0, none⟩) (pre.length + 1) cap')) := fun b t cs h1 h2 h3 => hkt b t cs h1 h2 h3.drew
        have hb2' : Below w.heap.size W (w9.setCell ⟨w.heap.size + 1 + 1, 0, none⟩ (.slice (some ⟨g', 0, none⟩) (pre.length + 1) cap')) := (Below.refl _ _).drew.trans hb2
        have hM8 := hkW _ _ _ (by decide) (by decide) hM
        have hX8 := hkW _ _ _ (by decide) (by decide) hx
        have hx80 := (hX8.cell 0).trans (show _ = some (Value.string (bs key)) from rfl)
        have hx81 := (hX8.cell 1).trans (show _ = some (Value.string (bs val)) from rfl)
        have hqne : q ≠ w.heap.size + 1 + 1 := Blk.ne_ hx hv (by decide)
        have hx90 : w9.cell? ⟨q, 0, none⟩ = some (.string (bs key)) := by rw [← hx80]; exact (World.cell?_setCell_other _ _ _ _ (fun e => hqne (congrArg Addr.block e).symm)).symm
        have hx91 : w9.cell? ⟨q, 1, none⟩ = some (.string (bs val)) := by rw [← hx81]; exact (World.cell?_setCell_other _ _ _ _ (fun e => hqne (congrArg Addr.block e).symm)).symm
        have hc1 := hv1.cell
        have hf1 := hv1.frozen
        have hfin0 : w9.cell? ⟨q, 0, none⟩ = some (.string (bs key)) ∧ w9.cell? ⟨q, 1, none⟩ = some (.string (bs val)) := ⟨hx90, hx91⟩
        refine hK'.out _ _ hfin0 (fun _ => ?_)
        clear hK' K
        try simp only [Act.put, List.setIfInBounds_toArray, List.set_cons_zero, List.set_cons_succ]
        refine wpAnyH_ready (rs := [12]) (by kernel_rfl) (by simp) ?_
        refine AllReadyH.cons rfl (fun K hK' => ?_) AllReadyH.nil
        go_simp
        refine hK'.out _ _ ⟨hx80, hx81⟩ (fun _ => ?_)
        clear hK' K
        refine wpAnyH_done (by kernel_rfl) ?_ _
        exact ⟨(KeepsOthers.drew W).trans hk2, hkW, ⟨_, hv2, by simpa [entsOf, itemCells_append, itemCells, hkey, hval] using hr2, trivial⟩, hB.trans hb2', hK.trans hkW, hM8, by simp; omega⟩
  case done =>
    rintro D ys W hD hys ⟨⟨v, hv, hrow, _⟩, hB, hK, hM, hlim⟩ hKD
    have hys : entsOf ys = L := hys
    have hyl : ys.length = L.length := by rw [← hys]; simp [entsOf]
    have cv := hv.cell
    have hRL : RL = L := by
      rw [HR.out]
      split
      · rfl
      · exact List.take_of_length_le (by omega)
    subst hRL
    rw [hys, hyl] at hrow
    gi_wp2
    refine ⟨by simp, .inl ⟨_, _, rfl, run_takeDeferred hKD, ?_⟩⟩
    exact ⟨_, results_tmp rfl _ _ _, v, rfl, ownsRow_putObj hrow _ hKD rfl, hB.trans (belowK_b (w := w) (Nat.le_refl _) W D _ _ (by omega) hKD rfl rfl)⟩
  case stop =>
    rintro D c pre W hD hpre ⟨rfl, ⟨v, hv, hrow, _⟩, hB, hlim⟩ hKD
    have hpre : entsOf pre <+: L := hpre
    have hpl : pre.length = (entsOf pre).length := by simp [entsOf]
    have cv := hv.cell
    have hRL : RL = (entsOf pre).take most.toNat := by
      rw [HR.out, if_neg (by omega)]
      obtain ⟨r, rfl⟩ := hpre
      rw [List.take_append_of_le_length (by omega)]
    rw [← hRL] at hrow
    gi_wp2
    refine ⟨by simp, .inl ⟨_, _, rfl, run_takeDeferred hKD, ?_⟩⟩
    exact ⟨_, results_tmp rfl _ _ _, v, rfl, ownsRow_putObj hrow _ hKD rfl, hB.trans (belowK_b (w := w) (Nat.le_refl _) W D _ _ (by omega) hKD rfl rfl)⟩
end Go.Proofs.Ytjjkdmngmopjbaa
