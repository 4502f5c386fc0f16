/- A path that somebody has turned: it is some path. -/
import Derived.Test.YtjmkcndjjfokiaaProg
import Derived.Test.YtjmkcndjjfokiaaHold5
import Derived.Deep.RegionHeld3
namespace Go.Proofs.Ytjmkcndjjfokiaa
open Go.RowKit
/-- PathOf's path holds -/
theorem holds_path (wd : Int) (l : List (List UInt8)) (k : Nat) (hk : k < l.length) (hl : l.length ≤ 65536) : holdsS wd (rootS wd l) l[k] l.length k (pathS wd l k) = true := by
  have h1 : wayS (l.length : Int) (k : Int) = riteF l.length l.length k := by simp [wayS]
  have h2 := riteF_length wd l.length l k
  have h3 := climb_path wd l.length l k hk (Nat.le_refl _)
  have h4 : okP (l.length : Int) (k : Int) (pathS wd l k) = true := by
    unfold okP
    rw [h1]
    simp [pathS, h2]
    omega
  unfold holdsS peakS
  rw [h4, h1]
  unfold pathS
  rw [h3]
  simp [rootS]
/-- some path that was made behind w -/
def SomePath (w : World) (m : Nat) (e : Ending) (w' : World) : Prop := ∃ (n a : Int) (ds : List Int) (A : Option Addr) (c : Nat), e = .returned (.agg #[.int .i64 n, .int .i64 a, .slice A ds.length c]) ∧ Rd w' w'.heap.size 1 A ds.length (digs ds) ∧ (∀ d ∈ ds, 0 ≤ d ∧ d < 18446744073709551616) ∧ ds.length ≤ m + 1 ∧ Below w.heap.size w w'
theorem own_far {w : World} {base : Nat} {e : TypeId} {size n : Nat} {v : Value} {xs : List Value} (h : w.ownsRow base e size v n xs) {p : Addr} (hp : v.ownBlock ≠ some p.block) (u : Value) : (w.setCell p u).ownsRow base e size v n xs :=
  h.kept (row := some p.block) ⟨rfl, rfl, rfl, by simp [World.setCell], fun k _ hk => Below.heap_setCell w p u k (fun e => hk (by rw [e]))⟩ (.inr hp)
theorem own_ne {w : World} {base : Nat} {e : TypeId} {size n : Nat} {v : Value} {xs : List Value} (h : w.ownsRow base e size v n xs) {q : Nat} {t : TypeId} {cs : Array Value} (hq : Blk w q t cs) (ht : e ≠ t) : v.ownBlock ≠ some q := by
  rcases h.2 with ⟨rfl, _⟩ | ⟨g, cap, cur, rfl, _, hg, _⟩
  · simp [Value.ownBlock]
  · simp only [Value.ownBlock, ne_eq, Option.some.injEq]
    intro e1
    subst e1
    unfold Blk at hq
    rw [hg] at hq
    simp only [Option.some.injEq, Obj.cells.injEq] at hq
    exact ht hq.2.1
theorem Rd.put {w : World} {B b off : Nat} {ds : List Int} (h : Rd w B 1 (some ⟨b, off, none⟩) ds.length (digs ds)) {I : Nat} (hI : I < ds.length) (U : Int) : Rd (w.setCell ⟨b, off + I, none⟩ (.int .u64 U)) B 1 (some ⟨b, off, none⟩) (ds.set I U).length (digs (ds.set I U)) := by
  refine ⟨by simp [digs], fun _ => ?_⟩
  obtain ⟨b', off', e, hb, hc⟩ := h.2 (by omega)
  simp only [Option.some.injEq, Addr.mk.injEq, and_true] at e
  obtain ⟨rfl, rfl⟩ := e
  refine ⟨b, off, rfl, hb, fun j u hu => ?_⟩
  by_cases hj : j = I
  · subst hj
    have h0 := hc j (.int .u64 ds[j]) (by simp [digs, List.getElem?_eq_getElem hI])
    simp [digs, List.getElem?_set, hI] at hu
    subst hu
    exact World.cell?_setCell_same' _ _ _ (by rw [h0]; rfl)
  · have hj2 : ¬ I = j := fun e => hj e.symm
    rw [World.cell?_setCell_other w _ _ _ (fun e => by simp only [Addr.mk.injEq] at e; omega)]
    refine hc j u ?_
    simpa [digs, List.getElem?_set, hj2] using hu
theorem own_drew1 {w : World} {base : Nat} {e : TypeId} {size n : Nat} {v : Value} {xs : List Value} (h : w.ownsRow base e size v n xs) : w.drew.ownsRow base e size v n xs := h
theorem digs_one (ds : List Int) : ∀ u ∈ digs ds, u.oneCell' = true := by
  intro u hu
  simp only [digs, List.mem_map] at hu
  obtain ⟨d, _, rfl⟩ := hu
  rfl
theorem digInfo2 : (Try.prog.info? 33).map (fun i => (i.zero, i.size, i.bytes)) = some (some (.int .u64 0), 1, 8) := by kernel_rfl
set_option maxRecDepth 100000 in
set_option maxHeartbeats 4000000 in
theorem spoil_any (n a how d : Int) (ds : List Int) (A : Option Addr) (c B : Nat) (w : World) (hr : Rd w B 1 A ds.length (digs ds)) (hB : B ≤ w.heap.size) (hd : ∀ d ∈ ds, 0 ≤ d ∧ d < 18446744073709551616) (hdl : ds.length ≤ 1000000) (hhow : -9223372036854775808 ≤ how) (hdd : -9223372036854775808 ≤ d) :
    Calls Try.prog 24 #[.agg #[.int .i64 n, .int .i64 a, .slice A ds.length c], .int .i64 how, .int .i64 d] w (SomePath w ds.length) := by
  have hu := u64_wrap d
  have hpk := fun W => pick_any how 8 W hhow (by omega)
  have hp0 := pickS_lo how 8 (by omega)
  have hp1 := pickS_hi how 8 (by omega)
  generalize pickS how 8 = k at *
  obtain ⟨i0, hi0, hz0, hz1, hz2⟩ := info_parts digInfo2
  have hb0 : Below w.heap.size w ((w.alloc (.cells #[.int .i64 n, .int .i64 a, .slice A ds.length c] 37)).alloc (.cells #[.int .i64 0, .int .i64 0, .slice none 0 0] 37)) := ((Below.refl _ _).alloc (Nat.le_refl _) _).alloc (by simp) _
  have hblk0 : Blk ((w.alloc (.cells #[.int .i64 n, .int .i64 a, .slice A ds.length c] 37)).alloc (.cells #[.int .i64 0, .int .i64 0, .slice none 0 0] 37)) w.heap.size 37 #[.int .i64 n, .int .i64 a, .slice A ds.length c] := (Blk.new _ _ _).alloc _
  have hres0 : Blk ((w.alloc (.cells #[.int .i64 n, .int .i64 a, .slice A ds.length c] 37)).alloc (.cells #[.int .i64 0, .int .i64 0, .slice none 0 0] 37)) (w.heap.size + 1) 37 #[.int .i64 0, .int .i64 0, .slice none 0 0] := by
    have hN := Blk.new (w.alloc (.cells #[.int .i64 n, .int .i64 a, .slice A ds.length c] 37)) 37 #[.int .i64 0, .int .i64 0, .slice none 0 0]
    simpa using hN
  have hsz0 : ((w.alloc (.cells #[.int .i64 n, .int .i64 a, .slice A ds.length c] 37)).alloc (.cells #[.int .i64 0, .int .i64 0, .slice none 0 0] 37)).heap.size ≤ w.heap.size + 2 := by simp
  have hsz1 : w.heap.size + 2 ≤ ((w.alloc (.cells #[.int .i64 n, .int .i64 a, .slice A ds.length c] 37)).alloc (.cells #[.int .i64 0, .int .i64 0, .slice none 0 0] 37)).heap.size := by simp
  go_enter Try.func24, Try.ntmps24
  go_upto_region 1 with fail
  generalize hw2 : ((w.alloc (.cells #[.int .i64 n, .int .i64 a, .slice A ds.length c] 37)).alloc (.cells #[.int .i64 0, .int .i64 0, .slice none 0 0] 37)) = w2 at *
  clear hw2
  go_cut [7] (fun q wc => ∃ (Q : Nat) (A1 : Option Addr) (c1 : Nat), q = .pointer (some ⟨Q, 0, none⟩) ∧ Blk wc Q 37 #[.int .i64 n, .int .i64 a, .slice A1 ds.length c1] ∧ wc.ownsRow (w.heap.size + 2) 33 1 (.slice A1 ds.length c1) ds.length (digs ds) ∧ Blk wc (w.heap.size + 1) 37 #[.int .i64 0, .int .i64 0, .slice none 0 0] ∧ Below w.heap.size w wc ∧ w.heap.size + 2 ≤ Q)
  case first =>
    as_aux_lemma =>
    have hr0 : Rd w2 B 1 A ds.length (digs ds) := Rd.below hr (hb0.mono hB)
    have hblkD := hblk0.drew
    have hresD := hres0.drew
    have hbD := hb0.drew
    have q0 := (hblkD.cell 0).trans (show _ = some (Value.int .i64 n) from rfl)
    have q1 := (hblkD.cell 1).trans (show _ = some (Value.int .i64 a) from rfl)
    have q2 := (hblkD.cell 2).trans (show _ = some (Value.slice A ds.length c) from rfl)
    have r0 := fun o => hblkD.cell_a 0 (Value.int .i64 n) rfl o
    have r1 := fun o => hblkD.cell_a 1 (Value.int .i64 a) rfl o
    have r2 := fun o => hblkD.cell_a 2 (Value.slice A ds.length c) rfl o
    have t0 := fun o => ((hblk0.alloc o).drew.cell 0).trans (show _ = some (Value.int .i64 n) from rfl)
    have t1 := fun o => ((hblk0.alloc o).drew.cell 1).trans (show _ = some (Value.int .i64 a) from rfl)
    have t2 := fun o => ((hblk0.alloc o).drew.cell 2).trans (show _ = some (Value.slice A ds.length c) from rfl)
    have x0 := fun o o2 => (((hblk0.alloc o).alloc o2).drew.cell 0).trans (show _ = some (Value.int .i64 n) from rfl)
    have x1 := fun o o2 => (((hblk0.alloc o).alloc o2).drew.cell 1).trans (show _ = some (Value.int .i64 a) from rfl)
    have x2 := fun o o2 => (((hblk0.alloc o).alloc o2).drew.cell 2).trans (show _ = some (Value.slice A ds.length c) from rfl)
    have s0 := fun o o2 => (hblkD.alloc o).cell_a 0 (Value.int .i64 n) rfl o2
    have s1 := fun o o2 => (hblkD.alloc o).cell_a 1 (Value.int .i64 a) rfl o2
    have s2 := fun o o2 => (hblkD.alloc o).cell_a 2 (Value.slice A ds.length c) rfl o2
    have n1 : ¬ w2.heap.size + 1 = w.heap.size := by omega
    have n2 : ¬ w2.heap.size = w.heap.size := by omega
    have n3 : ¬ w.heap.size = w2.heap.size + 1 := by omega
    have n4 : ¬ w.heap.size = w2.heap.size := by omega
    have oE : ∀ W : World, w.heap.size + 2 ≤ W.heap.size → (W.alloc (.cells #[] 33)).ownsRow (w.heap.size + 2) 33 1 (.slice (some ⟨W.heap.size, 0, none⟩) 0 0) 0 [] := fun W hW =>
      ⟨rfl, .inr ⟨W.heap.size, 0, #[], rfl, hW, heap_alloc_new W _, Nat.le_refl _, by simp, rfl, rfl⟩⟩
    have oE2 : ((w2.alloc (.cells #[.int .i64 0, .int .i64 0, .slice none 0 0] 37)).alloc (.cells #[] 33)).ownsRow (w.heap.size + 2) 33 1 (.slice (some ⟨w2.heap.size + 1, 0, none⟩) 0 0) 0 [] := by
      have := oE (w2.alloc (.cells #[.int .i64 0, .int .i64 0, .slice none 0 0] 37)) (by simp; omega)
      simpa using this
    go_region_held3 (fun W => W.cell? ⟨w.heap.size, 0, none⟩ = some (Value.int .i64 n) ∧ W.cell? ⟨w.heap.size, 1, none⟩ = some (Value.int .i64 a) ∧ W.cell? ⟨w.heap.size, 2, none⟩ = some (Value.slice A ds.length c)) (go_keep) (first
      | (refine step_append_any _ (by rfl) (.tmp 12) (.tmp 14) 35 (by rfl) (w.heap.size + 2) 33 i0 _ 1 8 Try.underlying35 hi0 hz0 hz1 hz2 rfl (by omega) (.slice (some ⟨w2.heap.size, 0, none⟩) 0 0) 0 [] (by rfl) (own_drew1 (oE w2 (by omega))) B A ds.length c (digs ds) (by rfl) (Rd.drew (Rd.alloc hr0 (by omega) _)) (digs_one ds) (by simp [maxLen]; omega) (by omega) (by simp; omega) ?_
         intro v3 w3 hown3 hg3 hat3
         simp only [Nat.zero_add, List.nil_append] at hown3
         obtain ⟨A3, n3, rfl⟩ := own_shape hown3
         have hres3 := (Blk.drew (hres0.alloc (.cells #[] 33))).grown hg3 (by simp [Value.ownBlock]; omega)
         have hb3 : Below w.heap.size w w3 := ((hb0.alloc hb0.size (.cells #[] 33)).drew).grown hg3 (by simp; omega) (fun k hk => by simp [Value.ownBlock] at hk; omega)
         have hblk3 := (Blk.drew (hblk0.alloc (.cells #[] 33))).grown hg3 (by simp [Value.ownBlock]; omega)
         have y0 := (hblk3.cell 0).trans (show _ = some (Value.int .i64 n) from rfl)
         have ya0 := fun o => hblk3.cell_a 0 (Value.int .i64 n) rfl o
         have y1 := (hblk3.cell 1).trans (show _ = some (Value.int .i64 a) from rfl)
         have ya1 := fun o => hblk3.cell_a 1 (Value.int .i64 a) rfl o
         have y2 := (hblk3.cell 2).trans (show _ = some (Value.slice A ds.length c) from rfl)
         have ya2 := fun o => hblk3.cell_a 2 (Value.slice A ds.length c) rfl o)
      | (refine step_append_any _ (by rfl) (.tmp 12) (.tmp 14) 35 (by rfl) (w.heap.size + 2) 33 i0 _ 1 8 Try.underlying35 hi0 hz0 hz1 hz2 rfl (by omega) (.slice (some ⟨w2.heap.size + 1, 0, none⟩) 0 0) 0 [] (by rfl) (own_drew1 oE2) B A ds.length c (digs ds) (by rfl) (Rd.drew (Rd.alloc (Rd.alloc hr0 (by omega) _) (by simp; omega) _)) (digs_one ds) (by simp [maxLen]; omega) (by omega) (by simp; omega) ?_
         intro v3 w3 hown3 hg3 hat3
         simp only [Nat.zero_add, List.nil_append] at hown3
         obtain ⟨A3, n3, rfl⟩ := own_shape hown3
         have hres3 := (Blk.drew ((hres0.alloc (.cells #[.int .i64 0, .int .i64 0, .slice none 0 0] 37)).alloc (.cells #[] 33))).grown hg3 (by simp [Value.ownBlock]; omega)
         have hb3 : Below w.heap.size w w3 := (((hb0.alloc hb0.size (.cells #[.int .i64 0, .int .i64 0, .slice none 0 0] 37)).alloc (by simp; omega) (.cells #[] 33)).drew).grown hg3 (by simp; omega) (fun k hk => by simp [Value.ownBlock] at hk; omega)
         have hblk3 := (Blk.drew ((hblk0.alloc (.cells #[.int .i64 0, .int .i64 0, .slice none 0 0] 37)).alloc (.cells #[] 33))).grown hg3 (by simp [Value.ownBlock]; omega)
         have y0 := (hblk3.cell 0).trans (show _ = some (Value.int .i64 n) from rfl)
         have ya0 := fun o => hblk3.cell_a 0 (Value.int .i64 n) rfl o
         have y1 := (hblk3.cell 1).trans (show _ = some (Value.int .i64 a) from rfl)
         have ya1 := fun o => hblk3.cell_a 1 (Value.int .i64 a) rfl o
         have y2 := (hblk3.cell 2).trans (show _ = some (Value.slice A ds.length c) from rfl)
         have ya2 := fun o => hblk3.cell_a 2 (Value.slice A ds.length c) rfl o
         have hQ3 : Blk w3 w2.heap.size 37 #[.int .i64 0, .int .i64 0, .slice none 0 0] := (Blk.drew ((Blk.new w2 37 #[.int .i64 0, .int .i64 0, .slice none 0 0]).alloc (.cells #[] 33))).grown hg3 (by simp [Value.ownBlock])
         have fz0 := hQ3.frozen 0
         have fc0 := (hQ3.cell 0).trans (show _ = some (Value.int .i64 0) from rfl)
         have fz1 := hQ3.frozen 1
         have fc1 := (hQ3.cell 1).trans (show _ = some (Value.int .i64 0) from rfl)
         have fz2 := hQ3.frozen 2
         have fc2 := (hQ3.cell 2).trans (show _ = some (Value.slice none 0 0) from rfl))
      | (refine step_append_any _ (by rfl) (.tmp 12) (.tmp 14) 35 (by rfl) (w.heap.size + 2) 33 i0 _ 1 8 Try.underlying35 hi0 hz0 hz1 hz2 rfl (by omega) (.slice (some ⟨w2.heap.size, 0, none⟩) 0 0) 0 [] (by rfl) (own_drew1 ((oE w2 (by omega)).alloc _)) B A ds.length c (digs ds) (by rfl) (Rd.drew (Rd.alloc (Rd.alloc hr0 (by omega) _) (by simp; omega) _)) (digs_one ds) (by simp [maxLen]; omega) (by omega) (by simp; omega) ?_
         intro v3 w3 hown3 hg3 hat3
         simp only [Nat.zero_add, List.nil_append] at hown3
         obtain ⟨A3, n3, rfl⟩ := own_shape hown3
         have hres3 := (Blk.drew ((hres0.alloc (.cells #[] 33)).alloc (.cells #[.int .i64 0, .int .i64 0, .slice none 0 0] 37))).grown hg3 (by simp [Value.ownBlock]; omega)
         have hb3 : Below w.heap.size w w3 := (((hb0.alloc hb0.size (.cells #[] 33)).alloc (by simp; omega) (.cells #[.int .i64 0, .int .i64 0, .slice none 0 0] 37)).drew).grown hg3 (by simp; omega) (fun k hk => by simp [Value.ownBlock] at hk; omega)
         have hblk3 := (Blk.drew ((hblk0.alloc (.cells #[] 33)).alloc (.cells #[.int .i64 0, .int .i64 0, .slice none 0 0] 37))).grown hg3 (by simp [Value.ownBlock]; omega)
         have y0 := (hblk3.cell 0).trans (show _ = some (Value.int .i64 n) from rfl)
         have ya0 := fun o => hblk3.cell_a 0 (Value.int .i64 n) rfl o
         have y1 := (hblk3.cell 1).trans (show _ = some (Value.int .i64 a) from rfl)
         have ya1 := fun o => hblk3.cell_a 1 (Value.int .i64 a) rfl o
         have y2 := (hblk3.cell 2).trans (show _ = some (Value.slice A ds.length c) from rfl)
         have ya2 := fun o => hblk3.cell_a 2 (Value.slice A ds.length c) rfl o
         have hQ0 : Blk ((w2.alloc (.cells #[] 33)).alloc (.cells #[.int .i64 0, .int .i64 0, .slice none 0 0] 37)) (w2.heap.size + 1) 37 #[.int .i64 0, .int .i64 0, .slice none 0 0] := by have hN := Blk.new (w2.alloc (.cells #[] 33)) 37 #[.int .i64 0, .int .i64 0, .slice none 0 0]; simpa using hN
         have hQ3 : Blk w3 (w2.heap.size + 1) 37 #[.int .i64 0, .int .i64 0, .slice none 0 0] := (Blk.drew hQ0).grown hg3 (by simp [Value.ownBlock])
         have fz0 := hQ3.frozen 0
         have fc0 := (hQ3.cell 0).trans (show _ = some (Value.int .i64 0) from rfl)
         have fz1 := hQ3.frozen 1
         have fc1 := (hQ3.cell 1).trans (show _ = some (Value.int .i64 0) from rfl)
         have fz2 := hQ3.frozen 2
         have fc2 := (hQ3.cell 2).trans (show _ = some (Value.slice none 0 0) from rfl)))
    all_goals
      go_wp2_with fail
      go_meet
      have hs3 := hg3.size
      simp at hs3
      first
        | exact ⟨w3.heap.size, A3, n3, rfl, Blk.new _ _ _, hown3.alloc _, hres3.alloc _, hb3.alloc hb3.size _, by omega⟩
        | exact ⟨_, A3, n3, rfl, ((hQ3.set_ 0 _).set_ 1 _).set_ 2 _, own_far (own_far (own_far hown3 (own_ne hown3 hQ3 (by decide)) _) (own_ne hown3 hQ3 (by decide)) _) (own_ne hown3 hQ3 (by decide)) _, ((hres3.far (by simp; omega) _).far (by simp; omega) _).far (by simp; omega) _, ((hb3.setCell (by simp; omega) _).setCell (by simp; omega) _).setCell (by simp; omega) _, by omega⟩
  case rest =>
    obtain ⟨Q, A1, c1, rfl, hQ, hown, hres, hb, hQge⟩ := hcut
    have hne := own_ne hown hQ (by decide)
    have hfr := own_from hown
    have hltQ := hQ.lt
    have hltR := hres.lt
    have hcc := own_cap hown
    have hQR : ¬ Q = w.heap.size + 1 := by omega
    have hRQ : ¬ w.heap.size + 1 = Q := by omega
    obtain ⟨X0, hX0⟩ : ∃ X, IntKind.i64.wrap (n + 1) = X := ⟨_, rfl⟩
    have hX0' : wrap64 (n + 1) = X0 := by rw [← hX0, IntWalk.i64_left]
    obtain ⟨X1, hX1⟩ : ∃ X, IntKind.i64.wrap (a + 1) = X := ⟨_, rfl⟩
    have hX1' : wrap64 (a + 1) = X1 := by rw [← hX1, IntWalk.i64_left]
    obtain ⟨U, hU⟩ : ∃ X, IntKind.u64.wrap d = X := ⟨_, rfl⟩
    rw [hU] at hu
    have k0 := (hQ.cell 0).trans (show _ = some (Value.int .i64 n) from rfl)
    have k1 := (hQ.cell 1).trans (show _ = some (Value.int .i64 a) from rfl)
    have k2 := (hQ.cell 2).trans (show _ = some (Value.slice A1 ds.length c1) from rfl)
    have kf0 := hQ.frozen 0
    have kf1 := hQ.frozen 1
    have kf2 := hQ.frozen 2
    have rf0 := (hres).frozen 0
    have rc0 := ((hres).cell 0).trans (show _ = some (Value.int .i64 0) from rfl)
    have rf1 := (hres).frozen 1
    have rc1 := ((hres).cell 1).trans (show _ = some (Value.int .i64 0) from rfl)
    have rf2 := (hres).frozen 2
    have rc2 := ((hres).cell 2).trans (show _ = some (Value.slice none 0 0) from rfl)
    go_wp2_with fail
    refine (hpk _).mono ?_
    rintro e w' ⟨rfl, rfl⟩
    have hk8 : k = 0 ∨ k = 1 ∨ k = 2 ∨ k = 3 ∨ k = 4 ∨ k = 5 ∨ k = 6 ∨ k = 7 := by omega
    rcases hk8 with rfl | rfl | rfl | rfl | rfl | rfl | rfl | rfl
    · as_aux_lemma =>
      have hQ1 := hQ.set_ 0 (.int .i64 X0)
      have e0 := (hQ1.cell 0).trans (show _ = some (Value.int .i64 X0) from rfl)
      have e1 := (hQ1.cell 1).trans (show _ = some (Value.int .i64 a) from rfl)
      have e2 := (hQ1.cell 2).trans (show _ = some (Value.slice A1 ds.length c1) from rfl)
      have sf0 := (hres.far (p := ⟨Q, 0, none⟩) (by simp; omega) (.int .i64 X0)).frozen 0
      have sc0 := ((hres.far (p := ⟨Q, 0, none⟩) (by simp; omega) (.int .i64 X0)).cell 0).trans (show _ = some (Value.int .i64 0) from rfl)
      have sf1 := (hres.far (p := ⟨Q, 0, none⟩) (by simp; omega) (.int .i64 X0)).frozen 1
      have sc1 := ((hres.far (p := ⟨Q, 0, none⟩) (by simp; omega) (.int .i64 X0)).cell 1).trans (show _ = some (Value.int .i64 0) from rfl)
      have sf2 := (hres.far (p := ⟨Q, 0, none⟩) (by simp; omega) (.int .i64 X0)).frozen 2
      have sc2 := ((hres.far (p := ⟨Q, 0, none⟩) (by simp; omega) (.int .i64 X0)).cell 2).trans (show _ = some (Value.slice none 0 0) from rfl)
      have hR1 := (((hres.far (p := ⟨Q, 0, none⟩) (by simp; omega) (.int .i64 X0)).set_ 0 (.int .i64 X0)).set_ 1 (.int .i64 a)).set_ 2 (.slice A1 ds.length c1)
      have z0 := (hR1.cell 0).trans (show _ = some (Value.int .i64 X0) from rfl)
      have z1 := (hR1.cell 1).trans (show _ = some (Value.int .i64 a) from rfl)
      have z2 := (hR1.cell 2).trans (show _ = some (Value.slice A1 ds.length c1) from rfl)
      go_wp2_with fail
      refine bodyPost_ret (v := .agg #[.int .i64 X0, .int .i64 a, .slice A1 ds.length c1]) (by simp [results, Try.results24, go_sem, z0, z1, z2]) rfl ⟨X0, a, ds, A1, c1, rfl, Rd.more (Rd.setCellF (Rd.setCellF (Rd.setCellF (Rd.of_own (own_far hown (p := ⟨Q, 0, none⟩) hne (.int .i64 X0))) (hfr) (p := ⟨w.heap.size + 1, 0, none⟩) (by simp) _) (hfr) (p := ⟨w.heap.size + 1, 1, none⟩) (by simp) _) (hfr) (p := ⟨w.heap.size + 1, 2, none⟩) (by simp) _) (by simp [World.setCell]), hd, Nat.le_succ _, (((hb.setCell (p := ⟨Q, 0, none⟩) (by simp; omega) (.int .i64 X0)).setCell (by simp) _).setCell (by simp) _).setCell (by simp) _⟩
    · as_aux_lemma =>
      have hQ1 := hQ.set_ 1 (.int .i64 X1)
      have e0 := (hQ1.cell 0).trans (show _ = some (Value.int .i64 n) from rfl)
      have e1 := (hQ1.cell 1).trans (show _ = some (Value.int .i64 X1) from rfl)
      have e2 := (hQ1.cell 2).trans (show _ = some (Value.slice A1 ds.length c1) from rfl)
      have sf0 := (hres.far (p := ⟨Q, 1, none⟩) (by simp; omega) (.int .i64 X1)).frozen 0
      have sc0 := ((hres.far (p := ⟨Q, 1, none⟩) (by simp; omega) (.int .i64 X1)).cell 0).trans (show _ = some (Value.int .i64 0) from rfl)
      have sf1 := (hres.far (p := ⟨Q, 1, none⟩) (by simp; omega) (.int .i64 X1)).frozen 1
      have sc1 := ((hres.far (p := ⟨Q, 1, none⟩) (by simp; omega) (.int .i64 X1)).cell 1).trans (show _ = some (Value.int .i64 0) from rfl)
      have sf2 := (hres.far (p := ⟨Q, 1, none⟩) (by simp; omega) (.int .i64 X1)).frozen 2
      have sc2 := ((hres.far (p := ⟨Q, 1, none⟩) (by simp; omega) (.int .i64 X1)).cell 2).trans (show _ = some (Value.slice none 0 0) from rfl)
      have hR1 := (((hres.far (p := ⟨Q, 1, none⟩) (by simp; omega) (.int .i64 X1)).set_ 0 (.int .i64 n)).set_ 1 (.int .i64 X1)).set_ 2 (.slice A1 ds.length c1)
      have z0 := (hR1.cell 0).trans (show _ = some (Value.int .i64 n) from rfl)
      have z1 := (hR1.cell 1).trans (show _ = some (Value.int .i64 X1) from rfl)
      have z2 := (hR1.cell 2).trans (show _ = some (Value.slice A1 ds.length c1) from rfl)
      go_wp2_with fail
      refine bodyPost_ret (v := .agg #[.int .i64 n, .int .i64 X1, .slice A1 ds.length c1]) (by simp [results, Try.results24, go_sem, z0, z1, z2]) rfl ⟨n, X1, ds, A1, c1, rfl, Rd.more (Rd.setCellF (Rd.setCellF (Rd.setCellF (Rd.of_own (own_far hown (p := ⟨Q, 1, none⟩) hne (.int .i64 X1))) (hfr) (p := ⟨w.heap.size + 1, 0, none⟩) (by simp) _) (hfr) (p := ⟨w.heap.size + 1, 1, none⟩) (by simp) _) (hfr) (p := ⟨w.heap.size + 1, 2, none⟩) (by simp) _) (by simp [World.setCell]), hd, Nat.le_succ _, (((hb.setCell (p := ⟨Q, 1, none⟩) (by simp; omega) (.int .i64 X1)).setCell (by simp) _).setCell (by simp) _).setCell (by simp) _⟩
    · as_aux_lemma =>
      go_upto_region 8 with fail
      go_wp2_with (first
        | (at_builtin; refine wpList_append_any _ rfl (.tmp 34) (.tmp 37) 35 rfl (w.heap.size + 2) 33 i0 _ 1 8 Try.underlying35 hi0 hz0 hz1 hz2 rfl (by omega) (.slice A1 ds.length c1) ds.length _ (by rfl) (hown.alloc _) (wc.heap.size + 1) _ 1 1 [.int .u64 U] (by rfl) (Rd.laid wc #[.int .u64 U] 33 1 1 rfl) (fun u hu => by simp at hu; subst hu; rfl) (by simp [maxLen]; omega) (by omega) (by simp; omega) ?_
           intro v3 w3 hown3 hg3 hat3
           obtain ⟨A3, c3, rfl⟩ := own_shape hown3
           have hQ3 := (hQ.alloc (.cells #[.int .u64 U] 33)).grown hg3 (fun e => hne e.symm)
           have hres3 := (hres.alloc (.cells #[.int .u64 U] 33)).grown hg3 (fun e => by have := own_ge hown _ e.symm; omega)
           have hb3 : Below w.heap.size w w3 := (hb.alloc hb.size (.cells #[.int .u64 U] 33)).grown hg3 (by have := hb.size; simp; omega) (fun k hk => by have := own_ge hown k hk; omega)
           have gf2 := hQ3.frozen 2
           have gc2 := (hQ3.cell 2).trans (show _ = some (Value.slice A1 ds.length c1) from rfl)
           have hne3 := own_ne hown3 hQ3 (by decide)
           have hQ1 := hQ3.set_ 2 (.slice A3 (ds.length + 1) c3)
           have e0 := (hQ1.cell 0).trans (show _ = some (Value.int .i64 n) from rfl)
           have e1 := (hQ1.cell 1).trans (show _ = some (Value.int .i64 a) from rfl)
           have e2 := (hQ1.cell 2).trans (show _ = some (Value.slice A3 (ds.length + 1) c3) from rfl)
           have sf0 := (hres3.far (p := ⟨Q, 2, none⟩) (by simp; omega) (.slice A3 (ds.length + 1) c3)).frozen 0
           have sc0 := ((hres3.far (p := ⟨Q, 2, none⟩) (by simp; omega) (.slice A3 (ds.length + 1) c3)).cell 0).trans (show _ = some (Value.int .i64 0) from rfl)
           have sf1 := (hres3.far (p := ⟨Q, 2, none⟩) (by simp; omega) (.slice A3 (ds.length + 1) c3)).frozen 1
           have sc1 := ((hres3.far (p := ⟨Q, 2, none⟩) (by simp; omega) (.slice A3 (ds.length + 1) c3)).cell 1).trans (show _ = some (Value.int .i64 0) from rfl)
           have sf2 := (hres3.far (p := ⟨Q, 2, none⟩) (by simp; omega) (.slice A3 (ds.length + 1) c3)).frozen 2
           have sc2 := ((hres3.far (p := ⟨Q, 2, none⟩) (by simp; omega) (.slice A3 (ds.length + 1) c3)).cell 2).trans (show _ = some (Value.slice none 0 0) from rfl)))
      have hR1 := (((hres3.far (p := ⟨Q, 2, none⟩) (by simp; omega) (.slice A3 (ds.length + 1) c3)).set_ 0 (.int .i64 n)).set_ 1 (.int .i64 a)).set_ 2 (.slice A3 (ds.length + 1) c3)
      have z0 := (hR1.cell 0).trans (show _ = some (Value.int .i64 n) from rfl)
      have z1 := (hR1.cell 1).trans (show _ = some (Value.int .i64 a) from rfl)
      have z2 := (hR1.cell 2).trans (show _ = some (Value.slice A3 (ds.length + 1) c3) from rfl)
      go_wp2_with fail
      refine bodyPost_ret (v := .agg #[.int .i64 n, .int .i64 a, .slice A3 (ds.length + 1) c3]) (by simp [results, Try.results24, go_sem, z0, z1, z2]) rfl ⟨n, a, (ds ++ [U]), A3, c3, by rw [List.length_append, List.length_singleton], Rd.more (Rd.setCellF (Rd.setCellF (Rd.setCellF (by rw [List.length_append, List.length_singleton, show digs (ds ++ [U]) = digs ds ++ [.int .u64 U] by simp [digs]]; exact Rd.of_own (own_far hown3 (p := ⟨Q, 2, none⟩) hne3 (.slice A3 (ds.length + 1) c3))) (own_from hown3) (p := ⟨w.heap.size + 1, 0, none⟩) (by simp) _) (own_from hown3) (p := ⟨w.heap.size + 1, 1, none⟩) (by simp) _) (own_from hown3) (p := ⟨w.heap.size + 1, 2, none⟩) (by simp) _) (by simp [World.setCell]), fun x hx => by rcases List.mem_append.1 hx with h | h; exact hd x h; simp at h; subst h; exact hu, by simp, (((hb3.setCell (p := ⟨Q, 2, none⟩) (by simp; omega) (.slice A3 (ds.length + 1) c3)).setCell (by simp) _).setCell (by simp) _).setCell (by simp) _⟩
    · as_aux_lemma =>
      by_cases hl0 : 0 < ds.length
      · have hli : (0 : Int) < (ds.length : Int) := by omega
        obtain ⟨g, cap, hv, _, _⟩ := hown.form hl0
        have hA : A1 = some ⟨g, 0, none⟩ := by injection hv
        subst hA
        have j0 : (0 : Int) ≤ 1 := by omega
        have j1 : (1 : Int) ≤ (ds.length : Int) := by omega
        have j2 : (1 : Int) ≤ (c1 : Int) := by omega
        have j3 : (ds.length : Int) ≤ (c1 : Int) := by omega
        have j4 : 1 ≤ ds.length := hl0
        have j5 : 1 ≤ c1 := by omega
        have hdr : digs (ds.drop 1) = (digs ds).drop 1 := by simp [digs]
        have hdd1 : ∀ x ∈ ds.drop 1, 0 ≤ x ∧ x < 18446744073709551616 := fun x hx => hd x (List.mem_of_mem_drop hx)
        by_cases hc1 : c1 = 1
        · have hl1 : ds.length = 1 := by omega
          have hq : digs (ds.drop 1) = [] := by rw [hdr]; exact List.drop_eq_nil_of_le (by simp [digs]; omega)
          subst hc1
          have rd1 : Rd (wc.setCell ⟨Q, 2, none⟩ (.slice (some ⟨g, 0, none⟩) 0 0)) (wc.setCell ⟨Q, 2, none⟩ (.slice (some ⟨g, 0, none⟩) 0 0)).heap.size 1 (some ⟨g, 0, none⟩) (ds.drop 1).length (digs (ds.drop 1)) := by
            rw [hq, List.length_drop, hl1]; exact Rd.nil _ _ _ _
          clear hq hdr
          have hfr1 : From (w.heap.size + 2) (some ⟨g, 0, none⟩) := hfr
          have HL1 := Lib.hid hl1
          clear hl1
          have hQ1 := hQ.set_ 2 (.slice (some ⟨g, 0, none⟩) 0 0)
          have e0 := (hQ1.cell 0).trans (show _ = some (Value.int .i64 n) from rfl)
          have e1 := (hQ1.cell 1).trans (show _ = some (Value.int .i64 a) from rfl)
          have e2 := (hQ1.cell 2).trans (show _ = some (Value.slice (some ⟨g, 0, none⟩) 0 0) from rfl)
          have sf0 := (hres.far (p := ⟨Q, 2, none⟩) (by simp; omega) (.slice (some ⟨g, 0, none⟩) 0 0)).frozen 0
          have sc0 := ((hres.far (p := ⟨Q, 2, none⟩) (by simp; omega) (.slice (some ⟨g, 0, none⟩) 0 0)).cell 0).trans (show _ = some (Value.int .i64 0) from rfl)
          have sf1 := (hres.far (p := ⟨Q, 2, none⟩) (by simp; omega) (.slice (some ⟨g, 0, none⟩) 0 0)).frozen 1
          have sc1 := ((hres.far (p := ⟨Q, 2, none⟩) (by simp; omega) (.slice (some ⟨g, 0, none⟩) 0 0)).cell 1).trans (show _ = some (Value.int .i64 0) from rfl)
          have sf2 := (hres.far (p := ⟨Q, 2, none⟩) (by simp; omega) (.slice (some ⟨g, 0, none⟩) 0 0)).frozen 2
          have sc2 := ((hres.far (p := ⟨Q, 2, none⟩) (by simp; omega) (.slice (some ⟨g, 0, none⟩) 0 0)).cell 2).trans (show _ = some (Value.slice none 0 0) from rfl)
          have hR1 := (((hres.far (p := ⟨Q, 2, none⟩) (by simp; omega) (.slice (some ⟨g, 0, none⟩) 0 0)).set_ 0 (.int .i64 n)).set_ 1 (.int .i64 a)).set_ 2 (.slice (some ⟨g, 0, none⟩) 0 0)
          have z0 := (hR1.cell 0).trans (show _ = some (Value.int .i64 n) from rfl)
          have z1 := (hR1.cell 1).trans (show _ = some (Value.int .i64 a) from rfl)
          have z2 := (hR1.cell 2).trans (show _ = some (Value.slice (some ⟨g, 0, none⟩) 0 0) from rfl)
          go_wp2_with fail
          refine bodyPost_ret (v := .agg #[.int .i64 n, .int .i64 a, .slice (some ⟨g, 0, none⟩) 0 0]) (by simp [results, Try.results24, go_sem, z0, z1, z2]) rfl ⟨n, a, ds.drop 1, (some ⟨g, 0, none⟩), 0, by rw [List.length_drop, HL1.out], Rd.more (Rd.setCellF (Rd.setCellF (Rd.setCellF (rd1) (hfr1) (p := ⟨w.heap.size + 1, 0, none⟩) (by simp) _) (hfr1) (p := ⟨w.heap.size + 1, 1, none⟩) (by simp) _) (hfr1) (p := ⟨w.heap.size + 1, 2, none⟩) (by simp) _) (by simp [World.setCell]), hdd1, (by rw [List.length_drop]; omega), (((hb.setCell (p := ⟨Q, 2, none⟩) (by simp; omega) (.slice (some ⟨g, 0, none⟩) 0 0)).setCell (by simp) _).setCell (by simp) _).setCell (by simp) _⟩
        · have rd0 : Rd wc wc.heap.size 1 (some ⟨g, 1, none⟩) (ds.drop 1).length (digs (ds.drop 1)) := by
            rw [hdr, List.length_drop]
            by_cases h2 : 1 < ds.length
            · simpa using Rd.cut_lt (Rd.of_own hown) h2
            · simpa using Rd.cut_all (Rd.of_own hown) h2 (some ⟨g, 1, none⟩)
          have hgq : g ≠ Q := fun e => hne (by rw [e]; rfl)
          have rd1 := Rd.more (Rd.setCell' rd0 (p := ⟨Q, 2, none⟩) hgq (.slice (some ⟨g, 1, none⟩) (ds.length - 1) (c1 - 1))) (show _ ≤ (wc.setCell ⟨Q, 2, none⟩ (.slice (some ⟨g, 1, none⟩) (ds.length - 1) (c1 - 1))).heap.size by simp [World.setCell])
          clear hdr
          have hfr1 : From (w.heap.size + 2) (some ⟨g, 1, none⟩) := fun b o e => by
            simp only [Option.some.injEq, Addr.mk.injEq, and_true] at e
            have := hfr g 0 rfl
            omega
          have hQ1 := hQ.set_ 2 (.slice (some ⟨g, 1, none⟩) (ds.length - 1) (c1 - 1))
          have e0 := (hQ1.cell 0).trans (show _ = some (Value.int .i64 n) from rfl)
          have e1 := (hQ1.cell 1).trans (show _ = some (Value.int .i64 a) from rfl)
          have e2 := (hQ1.cell 2).trans (show _ = some (Value.slice (some ⟨g, 1, none⟩) (ds.length - 1) (c1 - 1)) from rfl)
          have sf0 := (hres.far (p := ⟨Q, 2, none⟩) (by simp; omega) (.slice (some ⟨g, 1, none⟩) (ds.length - 1) (c1 - 1))).frozen 0
          have sc0 := ((hres.far (p := ⟨Q, 2, none⟩) (by simp; omega) (.slice (some ⟨g, 1, none⟩) (ds.length - 1) (c1 - 1))).cell 0).trans (show _ = some (Value.int .i64 0) from rfl)
          have sf1 := (hres.far (p := ⟨Q, 2, none⟩) (by simp; omega) (.slice (some ⟨g, 1, none⟩) (ds.length - 1) (c1 - 1))).frozen 1
          have sc1 := ((hres.far (p := ⟨Q, 2, none⟩) (by simp; omega) (.slice (some ⟨g, 1, none⟩) (ds.length - 1) (c1 - 1))).cell 1).trans (show _ = some (Value.int .i64 0) from rfl)
          have sf2 := (hres.far (p := ⟨Q, 2, none⟩) (by simp; omega) (.slice (some ⟨g, 1, none⟩) (ds.length - 1) (c1 - 1))).frozen 2
          have sc2 := ((hres.far (p := ⟨Q, 2, none⟩) (by simp; omega) (.slice (some ⟨g, 1, none⟩) (ds.length - 1) (c1 - 1))).cell 2).trans (show _ = some (Value.slice none 0 0) from rfl)
          have hR1 := (((hres.far (p := ⟨Q, 2, none⟩) (by simp; omega) (.slice (some ⟨g, 1, none⟩) (ds.length - 1) (c1 - 1))).set_ 0 (.int .i64 n)).set_ 1 (.int .i64 a)).set_ 2 (.slice (some ⟨g, 1, none⟩) (ds.length - 1) (c1 - 1))
          have z0 := (hR1.cell 0).trans (show _ = some (Value.int .i64 n) from rfl)
          have z1 := (hR1.cell 1).trans (show _ = some (Value.int .i64 a) from rfl)
          have z2 := (hR1.cell 2).trans (show _ = some (Value.slice (some ⟨g, 1, none⟩) (ds.length - 1) (c1 - 1)) from rfl)
          go_wp2_with fail
          refine bodyPost_ret (v := .agg #[.int .i64 n, .int .i64 a, .slice (some ⟨g, 1, none⟩) (ds.length - 1) (c1 - 1)]) (by simp [results, Try.results24, go_sem, z0, z1, z2]) rfl ⟨n, a, ds.drop 1, (some ⟨g, 1, none⟩), (c1 - 1), by rw [List.length_drop], Rd.more (Rd.setCellF (Rd.setCellF (Rd.setCellF (rd1) (hfr1) (p := ⟨w.heap.size + 1, 0, none⟩) (by simp) _) (hfr1) (p := ⟨w.heap.size + 1, 1, none⟩) (by simp) _) (hfr1) (p := ⟨w.heap.size + 1, 2, none⟩) (by simp) _) (by simp [World.setCell]), hdd1, (by rw [List.length_drop]; omega), (((hb.setCell (p := ⟨Q, 2, none⟩) (by simp; omega) (.slice (some ⟨g, 1, none⟩) (ds.length - 1) (c1 - 1))).setCell (by simp) _).setCell (by simp) _).setCell (by simp) _⟩
      · have hli : ¬ (0 : Int) < (ds.length : Int) := by omega
        have hR1 := (((hres).set_ 0 (.int .i64 n)).set_ 1 (.int .i64 a)).set_ 2 (.slice A1 ds.length c1)
        have z0 := (hR1.cell 0).trans (show _ = some (Value.int .i64 n) from rfl)
        have z1 := (hR1.cell 1).trans (show _ = some (Value.int .i64 a) from rfl)
        have z2 := (hR1.cell 2).trans (show _ = some (Value.slice A1 ds.length c1) from rfl)
        go_wp2_with fail
        refine bodyPost_ret (v := .agg #[.int .i64 n, .int .i64 a, .slice A1 ds.length c1]) (by simp [results, Try.results24, go_sem, z0, z1, z2]) rfl ⟨n, a, ds, A1, c1, rfl, Rd.more (Rd.setCellF (Rd.setCellF (Rd.setCellF (Rd.of_own hown) (hfr) (p := ⟨w.heap.size + 1, 0, none⟩) (by simp) _) (hfr) (p := ⟨w.heap.size + 1, 1, none⟩) (by simp) _) (hfr) (p := ⟨w.heap.size + 1, 2, none⟩) (by simp) _) (by simp [World.setCell]), hd, Nat.le_succ _, (((hb).setCell (by simp) _).setCell (by simp) _).setCell (by simp) _⟩
    · as_aux_lemma =>
      by_cases hl0 : 0 < ds.length
      · have hli : (0 : Int) < (ds.length : Int) := by omega
        obtain ⟨g, cap, hv, _, _⟩ := hown.form hl0
        have hA : A1 = some ⟨g, 0, none⟩ := by injection hv
        subst hA
        have hpk2 := fun W => pick_any d ds.length W hdd (by omega)
        have hi0' := pickS_lo d ds.length (by omega)
        have hi1' := pickS_hi d ds.length (by omega)
        obtain ⟨I, hI⟩ := Int.eq_ofNat_of_zero_le hi0'
        rw [hI] at hpk2 hi1'
        have hIl : I < ds.length := by omega
        clear hI hi0'
        have hIi : (I : Int) < (ds.length : Int) := by omega
        have hrd := Rd.of_own hown
        obtain ⟨b', off', e', _, kI⟩ := digs_at hrd hIl
        simp only [Option.some.injEq, Addr.mk.injEq, and_true] at e'
        obtain ⟨rfl, rfl⟩ := e'
        have hfz : wc.frozen? ⟨g, I, none⟩ = false := by
          rcases hown.2 with ⟨_, h0⟩ | ⟨g', cap', cur, e1, _, hgg, _⟩
          · omega
          · simp only [Value.slice.injEq, Option.some.injEq, Addr.mk.injEq] at e1
            obtain ⟨⟨rfl, _⟩, _⟩ := e1
            simp [World.frozen?, hgg]
        rw [Nat.zero_add] at kI
        have hgq : g ≠ Q := fun e => hne (by rw [e]; rfl)
        have hgR : g ≠ w.heap.size + 1 := by have := hfr g 0 rfl; omega
        have hQD := hQ.drew
        have dk2 := (hQD.cell 2).trans (show _ = some (Value.slice (some ⟨g, 0, none⟩) ds.length c1) from rfl)
        have dkI : wc.drew.cell? ⟨g, I, none⟩ = some (.int .u64 ds[I]) := kI
        have dfz : wc.drew.frozen? ⟨g, I, none⟩ = false := hfz
        have hQ1 := hQ.far (p := ⟨g, I, none⟩) (fun e => hgq e.symm) (.int .u64 U)
        have hres1 := hres.far (p := ⟨g, I, none⟩) (fun e => hgR e.symm) (.int .u64 U)
        have rd1 : Rd (wc.setCell ⟨g, I, none⟩ (.int .u64 U)) wc.heap.size 1 (some ⟨g, 0, none⟩) (ds.set I U).length (digs (ds.set I U)) := by
          have := Rd.put hrd hIl U
          rwa [Nat.zero_add] at this
        have hd1 : ∀ x ∈ ds.set I U, 0 ≤ x ∧ x < 18446744073709551616 := fun x hx => by
          rcases List.mem_or_eq_of_mem_set hx with h | h
          · exact hd x h
          · subst h; exact hu
        clear hrd kI
        go_upto_region 14 with fail
        have hgq2 : ¬ Q = g := fun e => hgq e.symm
        go_region_held3 (fun W => W.cell? ⟨Q, 2, none⟩ = some (Value.slice (some ⟨g, 0, none⟩) ds.length c1)) (go_keep) (first
          | (with_reducible refine (hpk2 _).mono ?_
             rintro e w' ⟨rfl, rfl⟩))
        all_goals
          have e0 := (hQ1.drew.cell 0).trans (show _ = some (Value.int .i64 n) from rfl)
          have e1 := (hQ1.drew.cell 1).trans (show _ = some (Value.int .i64 a) from rfl)
          have e2 := (hQ1.drew.cell 2).trans (show _ = some (Value.slice (some ⟨g, 0, none⟩) ds.length c1) from rfl)
          have sf0 := (hres1.drew).frozen 0
          have sc0 := ((hres1.drew).cell 0).trans (show _ = some (Value.int .i64 0) from rfl)
          have sf1 := (hres1.drew).frozen 1
          have sc1 := ((hres1.drew).cell 1).trans (show _ = some (Value.int .i64 0) from rfl)
          have sf2 := (hres1.drew).frozen 2
          have sc2 := ((hres1.drew).cell 2).trans (show _ = some (Value.slice none 0 0) from rfl)
          have hR1 := Blk.drew ((((hres1).set_ 0 (.int .i64 n)).set_ 1 (.int .i64 a)).set_ 2 (.slice (some ⟨g, 0, none⟩) ds.length c1))
          have z0 := (hR1.cell 0).trans (show _ = some (Value.int .i64 n) from rfl)
          have z1 := (hR1.cell 1).trans (show _ = some (Value.int .i64 a) from rfl)
          have z2 := (hR1.cell 2).trans (show _ = some (Value.slice (some ⟨g, 0, none⟩) ds.length c1) from rfl)
          go_wp2_with fail
          refine bodyPost_ret (v := .agg #[.int .i64 n, .int .i64 a, .slice (some ⟨g, 0, none⟩) ds.length c1]) (by simp [results, Try.results24, go_sem, z0, z1, z2]) rfl ⟨n, a, ds.set I U, some ⟨g, 0, none⟩, c1, by rw [List.length_set], Rd.more (Rd.drew (Rd.setCellF (Rd.setCellF (Rd.setCellF (rd1) (hfr) (p := ⟨w.heap.size + 1, 0, none⟩) (by simp) _) (hfr) (p := ⟨w.heap.size + 1, 1, none⟩) (by simp) _) (hfr) (p := ⟨w.heap.size + 1, 2, none⟩) (by simp) _)) (by simp [World.setCell]), hd1, (by rw [List.length_set]; omega), ((((hb.setCell (p := ⟨g, I, none⟩) (by have := hfr g 0 rfl; simp; omega) (.int .u64 U)).setCell (by simp) _).setCell (by simp) _).setCell (by simp) _).drew⟩
      · have hli : ¬ (0 : Int) < (ds.length : Int) := by omega
        have hR1 := (((hres).set_ 0 (.int .i64 n)).set_ 1 (.int .i64 a)).set_ 2 (.slice A1 ds.length c1)
        have z0 := (hR1.cell 0).trans (show _ = some (Value.int .i64 n) from rfl)
        have z1 := (hR1.cell 1).trans (show _ = some (Value.int .i64 a) from rfl)
        have z2 := (hR1.cell 2).trans (show _ = some (Value.slice A1 ds.length c1) from rfl)
        go_wp2_with fail
        refine bodyPost_ret (v := .agg #[.int .i64 n, .int .i64 a, .slice A1 ds.length c1]) (by simp [results, Try.results24, go_sem, z0, z1, z2]) rfl ⟨n, a, ds, A1, c1, rfl, Rd.more (Rd.setCellF (Rd.setCellF (Rd.setCellF (Rd.of_own hown) (hfr) (p := ⟨w.heap.size + 1, 0, none⟩) (by simp) _) (hfr) (p := ⟨w.heap.size + 1, 1, none⟩) (by simp) _) (hfr) (p := ⟨w.heap.size + 1, 2, none⟩) (by simp) _) (by simp [World.setCell]), hd, Nat.le_succ _, (((hb).setCell (by simp) _).setCell (by simp) _).setCell (by simp) _⟩
    · as_aux_lemma =>
      have hQ1 := hQ.set_ 0 (.int .i64 d)
      have e0 := (hQ1.cell 0).trans (show _ = some (Value.int .i64 d) from rfl)
      have e1 := (hQ1.cell 1).trans (show _ = some (Value.int .i64 a) from rfl)
      have e2 := (hQ1.cell 2).trans (show _ = some (Value.slice A1 ds.length c1) from rfl)
      have sf0 := (hres.far (p := ⟨Q, 0, none⟩) (by simp; omega) (.int .i64 d)).frozen 0
      have sc0 := ((hres.far (p := ⟨Q, 0, none⟩) (by simp; omega) (.int .i64 d)).cell 0).trans (show _ = some (Value.int .i64 0) from rfl)
      have sf1 := (hres.far (p := ⟨Q, 0, none⟩) (by simp; omega) (.int .i64 d)).frozen 1
      have sc1 := ((hres.far (p := ⟨Q, 0, none⟩) (by simp; omega) (.int .i64 d)).cell 1).trans (show _ = some (Value.int .i64 0) from rfl)
      have sf2 := (hres.far (p := ⟨Q, 0, none⟩) (by simp; omega) (.int .i64 d)).frozen 2
      have sc2 := ((hres.far (p := ⟨Q, 0, none⟩) (by simp; omega) (.int .i64 d)).cell 2).trans (show _ = some (Value.slice none 0 0) from rfl)
      have hR1 := (((hres.far (p := ⟨Q, 0, none⟩) (by simp; omega) (.int .i64 d)).set_ 0 (.int .i64 d)).set_ 1 (.int .i64 a)).set_ 2 (.slice A1 ds.length c1)
      have z0 := (hR1.cell 0).trans (show _ = some (Value.int .i64 d) from rfl)
      have z1 := (hR1.cell 1).trans (show _ = some (Value.int .i64 a) from rfl)
      have z2 := (hR1.cell 2).trans (show _ = some (Value.slice A1 ds.length c1) from rfl)
      go_wp2_with fail
      refine bodyPost_ret (v := .agg #[.int .i64 d, .int .i64 a, .slice A1 ds.length c1]) (by simp [results, Try.results24, go_sem, z0, z1, z2]) rfl ⟨d, a, ds, A1, c1, rfl, Rd.more (Rd.setCellF (Rd.setCellF (Rd.setCellF (Rd.of_own (own_far hown (p := ⟨Q, 0, none⟩) hne (.int .i64 d))) (hfr) (p := ⟨w.heap.size + 1, 0, none⟩) (by simp) _) (hfr) (p := ⟨w.heap.size + 1, 1, none⟩) (by simp) _) (hfr) (p := ⟨w.heap.size + 1, 2, none⟩) (by simp) _) (by simp [World.setCell]), hd, Nat.le_succ _, (((hb.setCell (p := ⟨Q, 0, none⟩) (by simp; omega) (.int .i64 d)).setCell (by simp) _).setCell (by simp) _).setCell (by simp) _⟩
    · as_aux_lemma =>
      have hR1 := (((hres).set_ 0 (.int .i64 n)).set_ 1 (.int .i64 a)).set_ 2 (.slice A1 ds.length c1)
      have z0 := (hR1.cell 0).trans (show _ = some (Value.int .i64 n) from rfl)
      have z1 := (hR1.cell 1).trans (show _ = some (Value.int .i64 a) from rfl)
      have z2 := (hR1.cell 2).trans (show _ = some (Value.slice A1 ds.length c1) from rfl)
      go_wp2_with fail
      refine bodyPost_ret (v := .agg #[.int .i64 n, .int .i64 a, .slice A1 ds.length c1]) (by simp [results, Try.results24, go_sem, z0, z1, z2]) rfl ⟨n, a, ds, A1, c1, rfl, Rd.more (Rd.setCellF (Rd.setCellF (Rd.setCellF (Rd.of_own hown) (hfr) (p := ⟨w.heap.size + 1, 0, none⟩) (by simp) _) (hfr) (p := ⟨w.heap.size + 1, 1, none⟩) (by simp) _) (hfr) (p := ⟨w.heap.size + 1, 2, none⟩) (by simp) _) (by simp [World.setCell]), hd, Nat.le_succ _, (((hb).setCell (by simp) _).setCell (by simp) _).setCell (by simp) _⟩
    · as_aux_lemma =>
      have hR1 := (((hres).set_ 0 (.int .i64 n)).set_ 1 (.int .i64 a)).set_ 2 (.slice A1 ds.length c1)
      have z0 := (hR1.cell 0).trans (show _ = some (Value.int .i64 n) from rfl)
      have z1 := (hR1.cell 1).trans (show _ = some (Value.int .i64 a) from rfl)
      have z2 := (hR1.cell 2).trans (show _ = some (Value.slice A1 ds.length c1) from rfl)
      go_wp2_with fail
      refine bodyPost_ret (v := .agg #[.int .i64 n, .int .i64 a, .slice A1 ds.length c1]) (by simp [results, Try.results24, go_sem, z0, z1, z2]) rfl ⟨n, a, ds, A1, c1, rfl, Rd.more (Rd.setCellF (Rd.setCellF (Rd.setCellF (Rd.of_own hown) (hfr) (p := ⟨w.heap.size + 1, 0, none⟩) (by simp) _) (hfr) (p := ⟨w.heap.size + 1, 1, none⟩) (by simp) _) (hfr) (p := ⟨w.heap.size + 1, 2, none⟩) (by simp) _) (by simp [World.setCell]), hd, Nat.le_succ _, (((hb).setCell (by simp) _).setCell (by simp) _).setCell (by simp) _⟩
end Go.Proofs.Ytjmkcndjjfokiaa
